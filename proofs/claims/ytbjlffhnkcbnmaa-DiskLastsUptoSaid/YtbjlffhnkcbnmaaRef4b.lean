/- The document's disk: turn, behind other changes. -/
import Derived.Test.YtbjlffhnkcbnmaaRef4
namespace Go.Proofs.Ytbjlffhnkcbnmaa
open Go.ChangeShapes Go.WideShapes Go.ChangeAt Go.RowKit Pl
set_option linter.unusedVariables false
set_option linter.unusedSimpArgs false

set_option maxRecDepth 100000 in
set_option maxHeartbeats 3200000 in
theorem refTurn_some {w : World} {b N gq oc : Nat} {F : Nat → Prop} {S : Dk} {fv nv lv pv : Value} (h : RDiskAt w b F S fv nv lv (.slice (some ⟨gq, 0, none⟩) S.opn.length oc) pv) (hg : Pl.Good N S.names) (hN : N ≤ 4194304) {c : Ch} (hc : 1 ≤ c.kind ∧ c.kind ≤ 3) (ho : S.opn.length ≤ 4194304) :
    Calls Try.prog 57 #[.pointer (some ⟨b, 0, none⟩), .agg (rcCells c).toArray] w (ROpEnd b F (S.turn c) (.tuple #[]) w) := by
  obtain ⟨na, nc, rfl⟩ := h.names.shape
  have hch := fun W (hm : NRow W F (.slice na S.names.length nc) S.names) => refChange_any hm hg.ris (Nat.le_trans hg.few hN) c hc
  obtain ⟨x0, x1, x2, x3, hx, o0, o1, o2, o3⟩ := rc_ok c
  rw [hx] at hch ⊢
  have HCH := Lib.hid hch
  obtain ⟨wq, hwq⟩ : ∃ wq, wq = w.alloc (.cells #[x0, x1, x2, x3] 98) := ⟨_, rfl⟩
  have HA := Lib.hid (show RDiskAt wq b F S fv (.slice na S.names.length nc) lv (.slice (some ⟨gq, 0, none⟩) S.opn.length oc) pv ∧ Wr F w wq ∧ wq.heap[w.heap.size]? = some (.cells #[x0, x1, x2, x3] 98 (0, 0)) from by
    rw [hwq]; exact ⟨h.alloc _, (Wr.refl _ _).alloc _, heap_alloc_new w _⟩)
  have HnF := Lib.hid (show ¬ F w.heap.size from fun hk => Nat.lt_irrefl _ (h.lt _ hk))
  clear h hch
  show Calls Try.prog 57 #[.pointer (some ⟨b, 0, none⟩), .agg #[x0, x1, x2, x3]] w _
  have hbk := HA.out.2.2
  have k0 : wq.cell? ⟨w.heap.size, 0, none⟩ = some x0 := by simp [World.cell?, hbk]
  have k1 : wq.cell? ⟨w.heap.size, 1, none⟩ = some x1 := by simp [World.cell?, hbk]
  have k2 : wq.cell? ⟨w.heap.size, 2, none⟩ = some x2 := by simp [World.cell?, hbk]
  have k3 : wq.cell? ⟨w.heap.size, 3, none⟩ = some x3 := by simp [World.cell?, hbk]
  obtain ⟨-, c1, -, -, -, -, -⟩ := HA.out.1.cells
  have hwz : w.heap.size < wq.heap.size := (Array.getElem?_eq_some_iff.1 hbk).1
  have hbw : b ≠ w.heap.size := fun e => HnF.out (e ▸ HA.out.1.own)
  have HY := Lib.hid (fun (i : Nat) (vd : Value) {W : World} (h : W.cell? ⟨w.heap.size, 0, none⟩ = some x0 ∧ W.cell? ⟨w.heap.size, 1, none⟩ = some x1 ∧ W.cell? ⟨w.heap.size, 2, none⟩ = some x2 ∧ W.cell? ⟨w.heap.size, 3, none⟩ = some x3) => box_other (i := i) (u := vd) (g := w.heap.size) hbw h)
  clear hbk
  go_enter Try.func57, Try.ntmps57
  go_wp2_with fail
  rw [← hwq]
  clear hwq
  have c1' : wq.drew.cell? ⟨b, 1, none⟩ = some (.slice na S.names.length nc) := c1
  have HA' := Lib.hid (HA.out.1.below (Below.refl wq.heap.size wq).drew)
  refine wp_region_held_drew (S := (fun W => W.cell? ⟨w.heap.size, 0, none⟩ = some x0 ∧ W.cell? ⟨w.heap.size, 1, none⟩ = some x1 ∧ W.cell? ⟨w.heap.size, 2, none⟩ = some x2 ∧ W.cell? ⟨w.heap.size, 3, none⟩ = some x3)) (by kernel_rfl) ?_ (fun hHeld => ?_)
  · exact ⟨k0, k1, k2, k3⟩
  refine wpAnyH_take (i := 0) (oi := (Go.Oper.mk (some 4) (Go.Op.move (Go.Operand.tmp 0)) 47 _ #[] none)) (v := ?_) rfl (by kernel_rfl) (by kernel_rfl) (by kernel_rfl) (fun _ _ _ h => h) (Or.inl ⟨by rfl, ?_⟩) hHeld ?_
  rotate_left
  · intro w hSw; (try dsimp only at hSw); go_simp; (try with_reducible rfl)
  simp only [Act.put, List.setIfInBounds_toArray, List.set_cons_zero, List.set_cons_succ]
  refine wpAnyH_take (i := 1) (oi := (Go.Oper.mk (some 5) (Go.Op.move (Go.Operand.tmp 0)) 47 _ #[] none)) (v := ?_) rfl (by kernel_rfl) (by kernel_rfl) (by kernel_rfl) (fun _ _ _ h => h) (Or.inl ⟨by rfl, ?_⟩) hHeld ?_
  rotate_left
  · intro w hSw; (try dsimp only at hSw); go_simp; (try with_reducible rfl)
  simp only [Act.put, List.setIfInBounds_toArray, List.set_cons_zero, List.set_cons_succ]
  refine wpAnyH_take (i := 2) (oi := (Go.Oper.mk (some 6) (Go.Op.nilCheck (Go.Operand.tmp 5)) 0 _ #[Go.Edge.mk 1 Go.Ground.data] none)) (v := ?_) rfl (by kernel_rfl) (by kernel_rfl) (by kernel_rfl) (fun _ _ _ h => h) (Or.inl ⟨by rfl, ?_⟩) hHeld ?_
  rotate_left
  · intro w hSw; (try dsimp only at hSw); go_simp; (try with_reducible rfl)
  simp only [Act.put, List.setIfInBounds_toArray, List.set_cons_zero, List.set_cons_succ]
  refine wpAnyH_take (i := 3) (oi := (Go.Oper.mk (some 7) (Go.Op.fieldAddr 52 (Go.Operand.tmp 6) 1) 0 _ #[Go.Edge.mk 2 Go.Ground.data] none)) (v := ?_) rfl (by kernel_rfl) (by kernel_rfl) (by kernel_rfl) (fun _ _ _ h => h) (Or.inl ⟨by rfl, ?_⟩) hHeld ?_
  rotate_left
  · intro w hSw; (try dsimp only at hSw); go_simp; (try with_reducible rfl)
  simp only [Act.put, List.setIfInBounds_toArray, List.set_cons_zero, List.set_cons_succ]
  refine wpAnyH_take (i := 5) (oi := (Go.Oper.mk (some 9) (Go.Op.load 98 (Go.Operand.tmp 3)) 98 _ #[] none)) (v := ?_) rfl (by kernel_rfl) (by kernel_rfl) (by kernel_rfl) (fun _ _ _ h => h) (Or.inl ⟨by rfl, ?_⟩) hHeld ?_
  rotate_left
  · intro w hSw; (try dsimp only at hSw); go_simp; (try with_reducible rfl)
  simp only [Act.put, List.setIfInBounds_toArray, List.set_cons_zero, List.set_cons_succ]
  refine wpAnyH_ready (rs := [4]) (by kernel_rfl) (by simp) ?_
  refine (AllReadyH.cons (o := (Go.Oper.mk (some 8) (Go.Op.load 49 (Go.Operand.tmp 7)) 49 _ #[Go.Edge.mk 3 Go.Ground.data] none)) rfl (fun K hK => ?_) AllReadyH.nil)
  · skip
    go_simp
    refine hK.out _ _ ?_ (fun hHeld => ?_)
    · exact ⟨k0, k1, k2, k3⟩
    clear hK K
    (try simp only [Act.put, List.setIfInBounds_toArray, List.set_cons_zero, List.set_cons_succ])
    refine wpAnyH_ready (rs := [6]) (by kernel_rfl) (by simp) ?_
    refine (AllReadyH.cons (o := (Go.Oper.mk (some 10) (Go.Op.call (Go.Call.mk (Go.Callee.value (Go.Operand.func 50)) #[Go.Operand.tmp 8, Go.Operand.tmp 9] #[49, 98])) 49 _ #[Go.Edge.mk 4 Go.Ground.data, Go.Edge.mk 5 Go.Ground.data] none)) rfl (fun K hK => ?_) AllReadyH.nil)
    · skip
      go_simp
      ((refine (HCH.out wq.drew HA'.out.names).mono ?_); rintro e wd ⟨vd, rfl, od, bd⟩; obtain ⟨da, dc, rfl⟩ := ONRow.shape od; have HB := Lib.hid (And.intro od bd); have HX := Lib.hid (show wd.cell? ⟨w.heap.size, 0, none⟩ = some x0 ∧ wd.cell? ⟨w.heap.size, 1, none⟩ = some x1 ∧ wd.cell? ⟨w.heap.size, 2, none⟩ = some x2 ∧ wd.cell? ⟨w.heap.size, 3, none⟩ = some x3 from ⟨(bd.cell (by exact hwz)).trans k0, (bd.cell (by exact hwz)).trans k1, (bd.cell (by exact hwz)).trans k2, (bd.cell (by exact hwz)).trans k3⟩); have s1 := (HA'.out.below bd).cells.2.1; have s2 := (HA'.out.below bd).free 1; clear od bd)
      go_wp2_with fail
      refine hK.out _ _ ?_ (fun hHeld => ?_)
      · exact HX.out
      clear hK K
      (try simp only [Act.put, List.setIfInBounds_toArray, List.set_cons_zero, List.set_cons_succ])
      refine wpAnyH_take (i := 7) (oi := (Go.Oper.mk (some 11) (Go.Op.nilCheck (Go.Operand.tmp 4)) 0 _ #[Go.Edge.mk 0 Go.Ground.data, Go.Edge.mk 0 Go.Ground.phase, Go.Edge.mk 1 Go.Ground.phase, Go.Edge.mk 2 Go.Ground.phase, Go.Edge.mk 3 Go.Ground.phase, Go.Edge.mk 4 Go.Ground.phase, Go.Edge.mk 5 Go.Ground.phase, Go.Edge.mk 6 Go.Ground.phase] none)) (v := ?_) rfl (by kernel_rfl) (by kernel_rfl) (by kernel_rfl) (fun _ _ _ h => h) (Or.inl ⟨by rfl, ?_⟩) hHeld ?_
      rotate_left
      · intro w hSw; (try dsimp only at hSw); go_simp; (try with_reducible rfl)
      simp only [Act.put, List.setIfInBounds_toArray, List.set_cons_zero, List.set_cons_succ]
      refine wpAnyH_take (i := 8) (oi := (Go.Oper.mk (some 12) (Go.Op.fieldAddr 52 (Go.Operand.tmp 11) 1) 0 _ #[Go.Edge.mk 7 Go.Ground.data, Go.Edge.mk 0 Go.Ground.phase, Go.Edge.mk 1 Go.Ground.phase, Go.Edge.mk 2 Go.Ground.phase, Go.Edge.mk 3 Go.Ground.phase, Go.Edge.mk 4 Go.Ground.phase, Go.Edge.mk 5 Go.Ground.phase, Go.Edge.mk 6 Go.Ground.phase] none)) (v := ?_) rfl (by kernel_rfl) (by kernel_rfl) (by kernel_rfl) (fun _ _ _ h => h) (Or.inl ⟨by rfl, ?_⟩) hHeld ?_
      rotate_left
      · intro w hSw; (try dsimp only at hSw); go_simp; (try with_reducible rfl)
      simp only [Act.put, List.setIfInBounds_toArray, List.set_cons_zero, List.set_cons_succ]
      refine wpAnyH_ready (rs := [9]) (by kernel_rfl) (by simp) ?_
      refine (AllReadyH.cons (o := (Go.Oper.mk none (Go.Op.store 49 (Go.Operand.tmp 12) (Go.Operand.tmp 10)) 0 _ #[Go.Edge.mk 8 Go.Ground.data, Go.Edge.mk 6 Go.Ground.data, Go.Edge.mk 6 Go.Ground.chain, Go.Edge.mk 0 Go.Ground.phase, Go.Edge.mk 1 Go.Ground.phase, Go.Edge.mk 2 Go.Ground.phase, Go.Edge.mk 3 Go.Ground.phase, Go.Edge.mk 4 Go.Ground.phase, Go.Edge.mk 5 Go.Ground.phase, Go.Edge.mk 6 Go.Ground.phase] none)) rfl (fun K hK => ?_) AllReadyH.nil)
      · skip
        go_simp
        refine hK.out _ _ ?_ (fun hHeld => ?_)
        · exact HY.out _ _ HX.out
        clear hK K
        (try simp only [Act.put, List.setIfInBounds_toArray, List.set_cons_zero, List.set_cons_succ])
        refine wpAnyH_done (by kernel_rfl) ?_ _
        have HN := Lib.hid (HA'.out.named HB.out.1 HB.out.2)
        obtain ⟨k0, k1, k2, k3⟩ := HY.out 1 (.slice da (change S.names c).length dc) HX.out
        have HZ := Lib.hid (show w.heap.size < (wd.setCell ⟨b, 1, none⟩ (.slice da (change S.names c).length dc)).heap.size from by rw [heap_setCell_size]; exact Nat.lt_of_lt_of_le hwz HB.out.2.size)
        generalize wd.setCell ⟨b, 1, none⟩ (.slice da (change S.names c).length dc) = wn at HN HZ k0 k1 k2 k3 ⊢
        clear c1 c1' s1 s2
        obtain ⟨-, -, -, c3, -, -, -⟩ := HN.out.1.cells
        have f3 := HN.out.1.free 3
        have hq := HN.out.1.opn.1
        have hblt := HN.out.1.lt b HN.out.1.own
        have h63 : S.opn.length + 1 ≤ maxLen := by unfold maxLen; omega
        have hby : (S.opn.length + 1) * 48 ≤ 140737488355328 := by omega
        obtain ⟨i0, hi, hz0, hz1, hz2⟩ := info_parts infoRC
        have HQ := Lib.hid (rowc_cells hq)
        have cd : wn.drew.cell? ⟨b, 3, none⟩ = some (.slice (some ⟨gq, 0, none⟩) S.opn.length oc) := c3
        have ax : ∀ o, ((wn.alloc o).drew).cell? ⟨b, 3, none⟩ = some (.slice (some ⟨gq, 0, none⟩) S.opn.length oc) := fun o => (((Below.refl _ _).alloc (Nat.le_refl _) o).cell (p := ⟨b, 3, none⟩) hblt).trans c3
        have HC3 := Lib.hid (And.intro c3 f3)
        have hwzn : w.heap.size < wn.heap.size := HZ.out
        have HK := Lib.hid (show ∀ W, Below wn.heap.size wn W → W.cell? ⟨w.heap.size, 0, none⟩ = some x0 ∧ W.cell? ⟨w.heap.size, 1, none⟩ = some x1 ∧ W.cell? ⟨w.heap.size, 2, none⟩ = some x2 ∧ W.cell? ⟨w.heap.size, 3, none⟩ = some x3 from fun W hW => ⟨(hW.cell (by exact hwzn)).trans k0, (hW.cell (by exact hwzn)).trans k1, (hW.cell (by exact hwzn)).trans k2, (hW.cell (by exact hwzn)).trans k3⟩)
        have HD := Lib.hid (show ∀ o, Below wn.heap.size wn ((wn.alloc o).drew) from fun o => ((Below.refl _ _).alloc (Nat.le_refl _) o).drew)
        have hxl : rcCells c = [x0, x1, x2, x3] := hx
        have hlen : (S.opn.flatMap rcCells).length = S.opn.length * 4 := hq.1
        clear hq c3 f3
        go_wp2_with fail
        rcases HQ.out with ⟨e, -, -⟩ | ⟨gq', e, hnc, hgq, hcs⟩
        · cases e
        · obtain rfl : gq = gq' := by simpa using e
          have HO := Lib.hid (show (∀ W, Below wn.heap.size wn W → ∀ bb, (some ⟨gq, 0, none⟩ : Option Addr) = some bb → ∀ (j : Nat) u, (S.opn.flatMap rcCells)[j]? = some u → W.cell? (bb.add j) = some u) ∧ (S.opn.flatMap rcCells).length = S.opn.length * 4 ∧ ((some ⟨gq, 0, none⟩ : Option Addr) = none → S.opn.length = 0 ∧ S.opn.length = 0) ∧ (S.opn ++ [c]).length = S.opn.length + 1 from
            ⟨(fun W hW bb e j u hu => by cases e; rw [add_lit0]; exact (hW.cell (by exact hgq)).trans (hcs j u hu)), hlen, (fun h => nomatch h), (by simp)⟩)
          have hb1 := h63
          have hb2 := hby
          have hnI : (S.opn.length : Int) ≤ (oc : Int) := by omega
          refine wp_region_held_drew (S := (fun W => W.cell? ⟨w.heap.size, 0, none⟩ = some x0 ∧ W.cell? ⟨w.heap.size, 1, none⟩ = some x1 ∧ W.cell? ⟨w.heap.size, 2, none⟩ = some x2 ∧ W.cell? ⟨w.heap.size, 3, none⟩ = some x3)) (by kernel_rfl) ?_ (fun hHeld => ?_)
          · first | exact ⟨k0, k1, k2, k3⟩ | exact HK.out _ (Below.refl _ _).drew | exact HK.out _ (HD.out _)
          refine wpAnyH_take (i := 0) (oi := (Go.Oper.mk (some 13) (Go.Op.move (Go.Operand.tmp 0)) 47 _ #[] none)) (v := ?_) rfl (by kernel_rfl) (by kernel_rfl) (by kernel_rfl) (fun _ _ _ h => h) (Or.inl ⟨by rfl, ?_⟩) hHeld ?_
          rotate_left
          · intro w hSw; (try dsimp only at hSw); go_simp; (try with_reducible rfl)
          simp only [Act.put, List.setIfInBounds_toArray, List.set_cons_zero, List.set_cons_succ]
          refine wpAnyH_take (i := 1) (oi := (Go.Oper.mk (some 14) (Go.Op.move (Go.Operand.tmp 0)) 47 _ #[] none)) (v := ?_) rfl (by kernel_rfl) (by kernel_rfl) (by kernel_rfl) (fun _ _ _ h => h) (Or.inl ⟨by rfl, ?_⟩) hHeld ?_
          rotate_left
          · intro w hSw; (try dsimp only at hSw); go_simp; (try with_reducible rfl)
          simp only [Act.put, List.setIfInBounds_toArray, List.set_cons_zero, List.set_cons_succ]
          refine wpAnyH_take (i := 2) (oi := (Go.Oper.mk (some 15) (Go.Op.nilCheck (Go.Operand.tmp 14)) 0 _ #[Go.Edge.mk 1 Go.Ground.data] none)) (v := ?_) rfl (by kernel_rfl) (by kernel_rfl) (by kernel_rfl) (fun _ _ _ h => h) (Or.inl ⟨by rfl, ?_⟩) hHeld ?_
          rotate_left
          · intro w hSw; (try dsimp only at hSw); go_simp; (try with_reducible rfl)
          simp only [Act.put, List.setIfInBounds_toArray, List.set_cons_zero, List.set_cons_succ]
          refine wpAnyH_take (i := 3) (oi := (Go.Oper.mk (some 16) (Go.Op.fieldAddr 52 (Go.Operand.tmp 15) 3) 0 _ #[Go.Edge.mk 2 Go.Ground.data] none)) (v := ?_) rfl (by kernel_rfl) (by kernel_rfl) (by kernel_rfl) (fun _ _ _ h => h) (Or.inl ⟨by rfl, ?_⟩) hHeld ?_
          rotate_left
          · intro w hSw; (try dsimp only at hSw); go_simp; (try with_reducible rfl)
          simp only [Act.put, List.setIfInBounds_toArray, List.set_cons_zero, List.set_cons_succ]
          refine wpAnyH_take (i := 5) (oi := (Go.Oper.mk (some 18) (Go.Op.move (Go.Operand.tmp 0)) 47 _ #[] none)) (v := ?_) rfl (by kernel_rfl) (by kernel_rfl) (by kernel_rfl) (fun _ _ _ h => h) (Or.inl ⟨by rfl, ?_⟩) hHeld ?_
          rotate_left
          · intro w hSw; (try dsimp only at hSw); go_simp; (try with_reducible rfl)
          simp only [Act.put, List.setIfInBounds_toArray, List.set_cons_zero, List.set_cons_succ]
          refine wpAnyH_take (i := 6) (oi := (Go.Oper.mk (some 19) (Go.Op.nilCheck (Go.Operand.tmp 18)) 0 _ #[Go.Edge.mk 5 Go.Ground.data] none)) (v := ?_) rfl (by kernel_rfl) (by kernel_rfl) (by kernel_rfl) (fun _ _ _ h => h) (Or.inl ⟨by rfl, ?_⟩) hHeld ?_
          rotate_left
          · intro w hSw; (try dsimp only at hSw); go_simp; (try with_reducible rfl)
          simp only [Act.put, List.setIfInBounds_toArray, List.set_cons_zero, List.set_cons_succ]
          refine wpAnyH_take (i := 7) (oi := (Go.Oper.mk (some 20) (Go.Op.fieldAddr 52 (Go.Operand.tmp 19) 3) 0 _ #[Go.Edge.mk 6 Go.Ground.data] none)) (v := ?_) rfl (by kernel_rfl) (by kernel_rfl) (by kernel_rfl) (fun _ _ _ h => h) (Or.inl ⟨by rfl, ?_⟩) hHeld ?_
          rotate_left
          · intro w hSw; (try dsimp only at hSw); go_simp; (try with_reducible rfl)
          simp only [Act.put, List.setIfInBounds_toArray, List.set_cons_zero, List.set_cons_succ]
          refine wpAnyH_take (i := 10) (oi := (Go.Oper.mk (some 23) (Go.Op.move (Go.Operand.tmp 0)) 47 _ #[] none)) (v := ?_) rfl (by kernel_rfl) (by kernel_rfl) (by kernel_rfl) (fun _ _ _ h => h) (Or.inl ⟨by rfl, ?_⟩) hHeld ?_
          rotate_left
          · intro w hSw; (try dsimp only at hSw); go_simp; (try with_reducible rfl)
          simp only [Act.put, List.setIfInBounds_toArray, List.set_cons_zero, List.set_cons_succ]
          refine wpAnyH_take (i := 11) (oi := (Go.Oper.mk (some 24) (Go.Op.nilCheck (Go.Operand.tmp 23)) 0 _ #[Go.Edge.mk 10 Go.Ground.data] none)) (v := ?_) rfl (by kernel_rfl) (by kernel_rfl) (by kernel_rfl) (fun _ _ _ h => h) (Or.inl ⟨by rfl, ?_⟩) hHeld ?_
          rotate_left
          · intro w hSw; (try dsimp only at hSw); go_simp; (try with_reducible rfl)
          simp only [Act.put, List.setIfInBounds_toArray, List.set_cons_zero, List.set_cons_succ]
          refine wpAnyH_take (i := 12) (oi := (Go.Oper.mk (some 25) (Go.Op.fieldAddr 52 (Go.Operand.tmp 24) 3) 0 _ #[Go.Edge.mk 11 Go.Ground.data] none)) (v := ?_) rfl (by kernel_rfl) (by kernel_rfl) (by kernel_rfl) (fun _ _ _ h => h) (Or.inl ⟨by rfl, ?_⟩) hHeld ?_
          rotate_left
          · intro w hSw; (try dsimp only at hSw); go_simp; (try with_reducible rfl)
          simp only [Act.put, List.setIfInBounds_toArray, List.set_cons_zero, List.set_cons_succ]
          refine wpAnyH_take (i := 16) (oi := (Go.Oper.mk (some 29) (Go.Op.load 98 (Go.Operand.tmp 3)) 98 _ #[] none)) (v := ?_) rfl (by kernel_rfl) (by kernel_rfl) (by kernel_rfl) (fun _ _ _ h => h) (Or.inl ⟨by rfl, ?_⟩) hHeld ?_
          rotate_left
          · intro w hSw; (try dsimp only at hSw); go_simp; (try with_reducible rfl)
          simp only [Act.put, List.setIfInBounds_toArray, List.set_cons_zero, List.set_cons_succ]
          refine wpAnyH_ready (rs := [4, 8, 13, 17]) (by kernel_rfl) (by simp) ?_
          refine (AllReadyH.cons (o := (Go.Oper.mk (some 17) (Go.Op.load 50 (Go.Operand.tmp 16)) 50 _ #[Go.Edge.mk 3 Go.Ground.data] none)) rfl (fun K hK => ?_) (AllReadyH.cons (o := (Go.Oper.mk (some 21) (Go.Op.load 50 (Go.Operand.tmp 20)) 50 _ #[Go.Edge.mk 7 Go.Ground.data] none)) rfl (fun K hK => ?_) (AllReadyH.cons (o := (Go.Oper.mk (some 26) (Go.Op.load 50 (Go.Operand.tmp 25)) 50 _ #[Go.Edge.mk 12 Go.Ground.data] none)) rfl (fun K hK => ?_) (AllReadyH.cons (o := (Go.Oper.mk (some 30) (Go.Op.buildSlice 50 1 #[(0, Go.Operand.tmp 29)]) 50 _ #[Go.Edge.mk 16 Go.Ground.data] none)) rfl (fun K hK => ?_) AllReadyH.nil))))
          · skip
            go_simp
            refine hK.out _ _ ?_ (fun hHeld => ?_)
            · first | exact ⟨k0, k1, k2, k3⟩ | exact HK.out _ (Below.refl _ _).drew | exact HK.out _ (HD.out _)
            clear hK K
            (try simp only [Act.put, List.setIfInBounds_toArray, List.set_cons_zero, List.set_cons_succ])
            refine wpAnyH_ready (rs := [8, 13, 17]) (by kernel_rfl) (by simp) ?_
            refine (AllReadyH.cons (o := (Go.Oper.mk (some 21) (Go.Op.load 50 (Go.Operand.tmp 20)) 50 _ #[Go.Edge.mk 7 Go.Ground.data] none)) rfl (fun K hK => ?_) (AllReadyH.cons (o := (Go.Oper.mk (some 26) (Go.Op.load 50 (Go.Operand.tmp 25)) 50 _ #[Go.Edge.mk 12 Go.Ground.data] none)) rfl (fun K hK => ?_) (AllReadyH.cons (o := (Go.Oper.mk (some 30) (Go.Op.buildSlice 50 1 #[(0, Go.Operand.tmp 29)]) 50 _ #[Go.Edge.mk 16 Go.Ground.data] none)) rfl (fun K hK => ?_) AllReadyH.nil)))
            · skip
              go_simp
              refine hK.out _ _ ?_ (fun hHeld => ?_)
              · first | exact ⟨k0, k1, k2, k3⟩ | exact HK.out _ (Below.refl _ _).drew | exact HK.out _ (HD.out _)
              clear hK K
              (try simp only [Act.put, List.setIfInBounds_toArray, List.set_cons_zero, List.set_cons_succ])
              refine wpAnyH_take (i := 9) (oi := (Go.Oper.mk (some 22) (Go.Op.call (Go.Call.mk (Go.Callee.builtin Go.Builtin.len) #[Go.Operand.tmp 21] #[50])) 3 _ #[Go.Edge.mk 8 Go.Ground.data] none)) (v := ?_) rfl (by kernel_rfl) (by kernel_rfl) (by kernel_rfl) (fun _ _ _ h => h) (Or.inl ⟨by rfl, ?_⟩) hHeld ?_
              rotate_left
              · intro w hSw; (try dsimp only at hSw); go_simp; (try with_reducible rfl)
              simp only [Act.put, List.setIfInBounds_toArray, List.set_cons_zero, List.set_cons_succ]
              refine wpAnyH_ready (rs := [13, 17]) (by kernel_rfl) (by simp) ?_
              refine (AllReadyH.cons (o := (Go.Oper.mk (some 26) (Go.Op.load 50 (Go.Operand.tmp 25)) 50 _ #[Go.Edge.mk 12 Go.Ground.data] none)) rfl (fun K hK => ?_) (AllReadyH.cons (o := (Go.Oper.mk (some 30) (Go.Op.buildSlice 50 1 #[(0, Go.Operand.tmp 29)]) 50 _ #[Go.Edge.mk 16 Go.Ground.data] none)) rfl (fun K hK => ?_) AllReadyH.nil))
              · skip
                go_simp
                refine hK.out _ _ ?_ (fun hHeld => ?_)
                · first | exact ⟨k0, k1, k2, k3⟩ | exact HK.out _ (Below.refl _ _).drew | exact HK.out _ (HD.out _)
                clear hK K
                (try simp only [Act.put, List.setIfInBounds_toArray, List.set_cons_zero, List.set_cons_succ])
                refine wpAnyH_take (i := 14) (oi := (Go.Oper.mk (some 27) (Go.Op.call (Go.Call.mk (Go.Callee.builtin Go.Builtin.len) #[Go.Operand.tmp 26] #[50])) 3 _ #[Go.Edge.mk 13 Go.Ground.data] none)) (v := ?_) rfl (by kernel_rfl) (by kernel_rfl) (by kernel_rfl) (fun _ _ _ h => h) (Or.inl ⟨by rfl, ?_⟩) hHeld ?_
                rotate_left
                · intro w hSw; (try dsimp only at hSw); go_simp; (try with_reducible rfl)
                simp only [Act.put, List.setIfInBounds_toArray, List.set_cons_zero, List.set_cons_succ]
                refine wpAnyH_take (i := 15) (oi := (Go.Oper.mk (some 28) (Go.Op.slice 50 (Go.Operand.tmp 17) none (some (Go.Operand.tmp 22)) (some (Go.Operand.tmp 27))) 50 _ #[Go.Edge.mk 4 Go.Ground.data, Go.Edge.mk 9 Go.Ground.data, Go.Edge.mk 14 Go.Ground.data] none)) (v := ?_) rfl (by kernel_rfl) (by kernel_rfl) (by kernel_rfl) (fun _ _ _ h => h) (Or.inl ⟨by rfl, ?_⟩) hHeld ?_
                rotate_left
                · intro w hSw; (try dsimp only at hSw); go_simp; (try with_reducible rfl)
                simp only [Act.put, List.setIfInBounds_toArray, List.set_cons_zero, List.set_cons_succ]
                refine wpAnyH_ready (rs := [17]) (by kernel_rfl) (by simp) ?_
                refine (AllReadyH.cons (o := (Go.Oper.mk (some 30) (Go.Op.buildSlice 50 1 #[(0, Go.Operand.tmp 29)]) 50 _ #[Go.Edge.mk 16 Go.Ground.data] none)) rfl (fun K hK => ?_) AllReadyH.nil)
                · skip
                  go_simp
                  refine hK.out _ _ ?_ (fun hHeld => ?_)
                  · first | exact ⟨k0, k1, k2, k3⟩ | exact HK.out _ (Below.refl _ _).drew | exact HK.out _ (HD.out _)
                  clear hK K
                  (try simp only [Act.put, List.setIfInBounds_toArray, List.set_cons_zero, List.set_cons_succ])
                  refine wpAnyH_ready (rs := [18]) (by kernel_rfl) (by simp) ?_
                  refine (AllReadyH.cons (o := (Go.Oper.mk (some 31) (Go.Op.call (Go.Call.mk (Go.Callee.builtin Go.Builtin.append) #[Go.Operand.tmp 28, Go.Operand.tmp 30] #[50, 50])) 50 _ #[Go.Edge.mk 15 Go.Ground.data, Go.Edge.mk 17 Go.Ground.data] none)) rfl (fun K hK => ?_) AllReadyH.nil)
                  · skip
                    (refine step_append_grows rfl _ _ _ rfl 98 i0 _ 4 48 Try.underlying50 hi hz0 hz1 hz2 rfl (by omega) _ _ _ (S.opn.flatMap rcCells) rfl HO.out.2.2.1 HO.out.2.1 (HO.out.1 _ (HD.out _)) ⟨wn.heap.size, 0, none⟩ 1 1 [x0, x1, x2, x3] rfl rfl (World.news_of_block (cs := #[x0, x1, x2, x3]) (t := 98) (fr := (0, 0)) (heap_alloc_new wn _)) (by simp [o0, o1, o2, o3]) (by omega) hb1 hb2 ?_); intro v5 w5 hown5 hgrow5; have HG := grown_open hown5 hgrow5 (HD.out _) HO.out.2.2.2 hxl hblt HC3.out; obtain ⟨a5, n5, q5, rfl⟩ := HG.1; obtain ⟨HG1, c5, f5⟩ := HG.2; replace HG := Lib.hid HG1; clear HG1 hown5 hgrow5
                    refine hK.out _ _ ?_ (fun hHeld => ?_)
                    · exact HK.out _ HG.out.2
                    clear hK K
                    (try simp only [Act.put, List.setIfInBounds_toArray, List.set_cons_zero, List.set_cons_succ])
                    refine wpAnyH_take (i := 19) (oi := (Go.Oper.mk (some 32) (Go.Op.nilCheck (Go.Operand.tmp 13)) 0 _ #[Go.Edge.mk 0 Go.Ground.data, Go.Edge.mk 0 Go.Ground.phase, Go.Edge.mk 1 Go.Ground.phase, Go.Edge.mk 2 Go.Ground.phase, Go.Edge.mk 3 Go.Ground.phase, Go.Edge.mk 4 Go.Ground.phase, Go.Edge.mk 5 Go.Ground.phase, Go.Edge.mk 6 Go.Ground.phase, Go.Edge.mk 7 Go.Ground.phase, Go.Edge.mk 8 Go.Ground.phase, Go.Edge.mk 9 Go.Ground.phase, Go.Edge.mk 10 Go.Ground.phase, Go.Edge.mk 11 Go.Ground.phase, Go.Edge.mk 12 Go.Ground.phase, Go.Edge.mk 13 Go.Ground.phase, Go.Edge.mk 14 Go.Ground.phase, Go.Edge.mk 15 Go.Ground.phase, Go.Edge.mk 16 Go.Ground.phase, Go.Edge.mk 17 Go.Ground.phase, Go.Edge.mk 18 Go.Ground.phase] none)) (v := ?_) rfl (by kernel_rfl) (by kernel_rfl) (by kernel_rfl) (fun _ _ _ h => h) (Or.inl ⟨by rfl, ?_⟩) hHeld ?_
                    rotate_left
                    · intro w hSw; (try dsimp only at hSw); go_simp; (try with_reducible rfl)
                    simp only [Act.put, List.setIfInBounds_toArray, List.set_cons_zero, List.set_cons_succ]
                    refine wpAnyH_take (i := 20) (oi := (Go.Oper.mk (some 33) (Go.Op.fieldAddr 52 (Go.Operand.tmp 32) 3) 0 _ #[Go.Edge.mk 19 Go.Ground.data, Go.Edge.mk 0 Go.Ground.phase, Go.Edge.mk 1 Go.Ground.phase, Go.Edge.mk 2 Go.Ground.phase, Go.Edge.mk 3 Go.Ground.phase, Go.Edge.mk 4 Go.Ground.phase, Go.Edge.mk 5 Go.Ground.phase, Go.Edge.mk 6 Go.Ground.phase, Go.Edge.mk 7 Go.Ground.phase, Go.Edge.mk 8 Go.Ground.phase, Go.Edge.mk 9 Go.Ground.phase, Go.Edge.mk 10 Go.Ground.phase, Go.Edge.mk 11 Go.Ground.phase, Go.Edge.mk 12 Go.Ground.phase, Go.Edge.mk 13 Go.Ground.phase, Go.Edge.mk 14 Go.Ground.phase, Go.Edge.mk 15 Go.Ground.phase, Go.Edge.mk 16 Go.Ground.phase, Go.Edge.mk 17 Go.Ground.phase, Go.Edge.mk 18 Go.Ground.phase] none)) (v := ?_) rfl (by kernel_rfl) (by kernel_rfl) (by kernel_rfl) (fun _ _ _ h => h) (Or.inl ⟨by rfl, ?_⟩) hHeld ?_
                    rotate_left
                    · intro w hSw; (try dsimp only at hSw); go_simp; (try with_reducible rfl)
                    simp only [Act.put, List.setIfInBounds_toArray, List.set_cons_zero, List.set_cons_succ]
                    refine wpAnyH_ready (rs := [21]) (by kernel_rfl) (by simp) ?_
                    refine (AllReadyH.cons (o := (Go.Oper.mk none (Go.Op.store 50 (Go.Operand.tmp 33) (Go.Operand.tmp 31)) 0 _ #[Go.Edge.mk 20 Go.Ground.data, Go.Edge.mk 18 Go.Ground.data, Go.Edge.mk 18 Go.Ground.chain, Go.Edge.mk 0 Go.Ground.phase, Go.Edge.mk 1 Go.Ground.phase, Go.Edge.mk 2 Go.Ground.phase, Go.Edge.mk 3 Go.Ground.phase, Go.Edge.mk 4 Go.Ground.phase, Go.Edge.mk 5 Go.Ground.phase, Go.Edge.mk 6 Go.Ground.phase, Go.Edge.mk 7 Go.Ground.phase, Go.Edge.mk 8 Go.Ground.phase, Go.Edge.mk 9 Go.Ground.phase, Go.Edge.mk 10 Go.Ground.phase, Go.Edge.mk 11 Go.Ground.phase, Go.Edge.mk 12 Go.Ground.phase, Go.Edge.mk 13 Go.Ground.phase, Go.Edge.mk 14 Go.Ground.phase, Go.Edge.mk 15 Go.Ground.phase, Go.Edge.mk 16 Go.Ground.phase, Go.Edge.mk 17 Go.Ground.phase, Go.Edge.mk 18 Go.Ground.phase] none)) rfl (fun K hK => ?_) AllReadyH.nil)
                    · skip
                      go_simp
                      refine hK.out _ _ ?_ (fun hHeld => ?_)
                      · exact HY.out _ _ (HK.out _ HG.out.2)
                      clear hK K
                      (try simp only [Act.put, List.setIfInBounds_toArray, List.set_cons_zero, List.set_cons_succ])
                      refine wpAnyH_done (by kernel_rfl) ?_ _
                      go_wp2
                      go_end0
                      have P := HN.out.1.opned HG.out.1 HG.out.2
                      have hwr : Wr F w _ := ((HA.out.2.1.drewN 1).trans HN.out.2 (Grew.refl _ _)).trans P.2 (fun k hk => hk.imp id fun h => Nat.le_trans (Nat.le_of_lt hwz) h.1)
                      exact ⟨rfl, _, P.1.disk, fun k hk => by
                        rcases hk with (hk | hk) | hk
                        · exact .inl hk
                        · exact .inr (Nat.le_trans (Nat.le_of_lt hwz) hk.1)
                        · exact .inr (Nat.le_trans (Nat.le_of_lt HZ.out) hk.1), hwr⟩
              · skip
                go_simp
                refine hK.out _ _ ?_ (fun hHeld => ?_)
                · first | exact ⟨k0, k1, k2, k3⟩ | exact HK.out _ (Below.refl _ _).drew | exact HK.out _ (HD.out _)
                clear hK K
                (try simp only [Act.put, List.setIfInBounds_toArray, List.set_cons_zero, List.set_cons_succ])
                refine wpAnyH_ready (rs := [13]) (by kernel_rfl) (by simp) ?_
                refine (AllReadyH.cons (o := (Go.Oper.mk (some 26) (Go.Op.load 50 (Go.Operand.tmp 25)) 50 _ #[Go.Edge.mk 12 Go.Ground.data] none)) rfl (fun K hK => ?_) AllReadyH.nil)
                · skip
                  go_simp
                  refine hK.out _ _ ?_ (fun hHeld => ?_)
                  · first | exact ⟨k0, k1, k2, k3⟩ | exact HK.out _ (Below.refl _ _).drew | exact HK.out _ (HD.out _)
                  clear hK K
                  (try simp only [Act.put, List.setIfInBounds_toArray, List.set_cons_zero, List.set_cons_succ])
                  refine wpAnyH_take (i := 14) (oi := (Go.Oper.mk (some 27) (Go.Op.call (Go.Call.mk (Go.Callee.builtin Go.Builtin.len) #[Go.Operand.tmp 26] #[50])) 3 _ #[Go.Edge.mk 13 Go.Ground.data] none)) (v := ?_) rfl (by kernel_rfl) (by kernel_rfl) (by kernel_rfl) (fun _ _ _ h => h) (Or.inl ⟨by rfl, ?_⟩) hHeld ?_
                  rotate_left
                  · intro w hSw; (try dsimp only at hSw); go_simp; (try with_reducible rfl)
                  simp only [Act.put, List.setIfInBounds_toArray, List.set_cons_zero, List.set_cons_succ]
                  refine wpAnyH_take (i := 15) (oi := (Go.Oper.mk (some 28) (Go.Op.slice 50 (Go.Operand.tmp 17) none (some (Go.Operand.tmp 22)) (some (Go.Operand.tmp 27))) 50 _ #[Go.Edge.mk 4 Go.Ground.data, Go.Edge.mk 9 Go.Ground.data, Go.Edge.mk 14 Go.Ground.data] none)) (v := ?_) rfl (by kernel_rfl) (by kernel_rfl) (by kernel_rfl) (fun _ _ _ h => h) (Or.inl ⟨by rfl, ?_⟩) hHeld ?_
                  rotate_left
                  · intro w hSw; (try dsimp only at hSw); go_simp; (try with_reducible rfl)
                  simp only [Act.put, List.setIfInBounds_toArray, List.set_cons_zero, List.set_cons_succ]
                  refine wpAnyH_ready (rs := [18]) (by kernel_rfl) (by simp) ?_
                  refine (AllReadyH.cons (o := (Go.Oper.mk (some 31) (Go.Op.call (Go.Call.mk (Go.Callee.builtin Go.Builtin.append) #[Go.Operand.tmp 28, Go.Operand.tmp 30] #[50, 50])) 50 _ #[Go.Edge.mk 15 Go.Ground.data, Go.Edge.mk 17 Go.Ground.data] none)) rfl (fun K hK => ?_) AllReadyH.nil)
                  · skip
                    (refine step_append_grows rfl _ _ _ rfl 98 i0 _ 4 48 Try.underlying50 hi hz0 hz1 hz2 rfl (by omega) _ _ _ (S.opn.flatMap rcCells) rfl HO.out.2.2.1 HO.out.2.1 (HO.out.1 _ (HD.out _)) ⟨wn.heap.size, 0, none⟩ 1 1 [x0, x1, x2, x3] rfl rfl (World.news_of_block (cs := #[x0, x1, x2, x3]) (t := 98) (fr := (0, 0)) (heap_alloc_new wn _)) (by simp [o0, o1, o2, o3]) (by omega) hb1 hb2 ?_); intro v5 w5 hown5 hgrow5; have HG := grown_open hown5 hgrow5 (HD.out _) HO.out.2.2.2 hxl hblt HC3.out; obtain ⟨a5, n5, q5, rfl⟩ := HG.1; obtain ⟨HG1, c5, f5⟩ := HG.2; replace HG := Lib.hid HG1; clear HG1 hown5 hgrow5
                    refine hK.out _ _ ?_ (fun hHeld => ?_)
                    · exact HK.out _ HG.out.2
                    clear hK K
                    (try simp only [Act.put, List.setIfInBounds_toArray, List.set_cons_zero, List.set_cons_succ])
                    refine wpAnyH_take (i := 19) (oi := (Go.Oper.mk (some 32) (Go.Op.nilCheck (Go.Operand.tmp 13)) 0 _ #[Go.Edge.mk 0 Go.Ground.data, Go.Edge.mk 0 Go.Ground.phase, Go.Edge.mk 1 Go.Ground.phase, Go.Edge.mk 2 Go.Ground.phase, Go.Edge.mk 3 Go.Ground.phase, Go.Edge.mk 4 Go.Ground.phase, Go.Edge.mk 5 Go.Ground.phase, Go.Edge.mk 6 Go.Ground.phase, Go.Edge.mk 7 Go.Ground.phase, Go.Edge.mk 8 Go.Ground.phase, Go.Edge.mk 9 Go.Ground.phase, Go.Edge.mk 10 Go.Ground.phase, Go.Edge.mk 11 Go.Ground.phase, Go.Edge.mk 12 Go.Ground.phase, Go.Edge.mk 13 Go.Ground.phase, Go.Edge.mk 14 Go.Ground.phase, Go.Edge.mk 15 Go.Ground.phase, Go.Edge.mk 16 Go.Ground.phase, Go.Edge.mk 17 Go.Ground.phase, Go.Edge.mk 18 Go.Ground.phase] none)) (v := ?_) rfl (by kernel_rfl) (by kernel_rfl) (by kernel_rfl) (fun _ _ _ h => h) (Or.inl ⟨by rfl, ?_⟩) hHeld ?_
                    rotate_left
                    · intro w hSw; (try dsimp only at hSw); go_simp; (try with_reducible rfl)
                    simp only [Act.put, List.setIfInBounds_toArray, List.set_cons_zero, List.set_cons_succ]
                    refine wpAnyH_take (i := 20) (oi := (Go.Oper.mk (some 33) (Go.Op.fieldAddr 52 (Go.Operand.tmp 32) 3) 0 _ #[Go.Edge.mk 19 Go.Ground.data, Go.Edge.mk 0 Go.Ground.phase, Go.Edge.mk 1 Go.Ground.phase, Go.Edge.mk 2 Go.Ground.phase, Go.Edge.mk 3 Go.Ground.phase, Go.Edge.mk 4 Go.Ground.phase, Go.Edge.mk 5 Go.Ground.phase, Go.Edge.mk 6 Go.Ground.phase, Go.Edge.mk 7 Go.Ground.phase, Go.Edge.mk 8 Go.Ground.phase, Go.Edge.mk 9 Go.Ground.phase, Go.Edge.mk 10 Go.Ground.phase, Go.Edge.mk 11 Go.Ground.phase, Go.Edge.mk 12 Go.Ground.phase, Go.Edge.mk 13 Go.Ground.phase, Go.Edge.mk 14 Go.Ground.phase, Go.Edge.mk 15 Go.Ground.phase, Go.Edge.mk 16 Go.Ground.phase, Go.Edge.mk 17 Go.Ground.phase, Go.Edge.mk 18 Go.Ground.phase] none)) (v := ?_) rfl (by kernel_rfl) (by kernel_rfl) (by kernel_rfl) (fun _ _ _ h => h) (Or.inl ⟨by rfl, ?_⟩) hHeld ?_
                    rotate_left
                    · intro w hSw; (try dsimp only at hSw); go_simp; (try with_reducible rfl)
                    simp only [Act.put, List.setIfInBounds_toArray, List.set_cons_zero, List.set_cons_succ]
                    refine wpAnyH_ready (rs := [21]) (by kernel_rfl) (by simp) ?_
                    refine (AllReadyH.cons (o := (Go.Oper.mk none (Go.Op.store 50 (Go.Operand.tmp 33) (Go.Operand.tmp 31)) 0 _ #[Go.Edge.mk 20 Go.Ground.data, Go.Edge.mk 18 Go.Ground.data, Go.Edge.mk 18 Go.Ground.chain, Go.Edge.mk 0 Go.Ground.phase, Go.Edge.mk 1 Go.Ground.phase, Go.Edge.mk 2 Go.Ground.phase, Go.Edge.mk 3 Go.Ground.phase, Go.Edge.mk 4 Go.Ground.phase, Go.Edge.mk 5 Go.Ground.phase, Go.Edge.mk 6 Go.Ground.phase, Go.Edge.mk 7 Go.Ground.phase, Go.Edge.mk 8 Go.Ground.phase, Go.Edge.mk 9 Go.Ground.phase, Go.Edge.mk 10 Go.Ground.phase, Go.Edge.mk 11 Go.Ground.phase, Go.Edge.mk 12 Go.Ground.phase, Go.Edge.mk 13 Go.Ground.phase, Go.Edge.mk 14 Go.Ground.phase, Go.Edge.mk 15 Go.Ground.phase, Go.Edge.mk 16 Go.Ground.phase, Go.Edge.mk 17 Go.Ground.phase, Go.Edge.mk 18 Go.Ground.phase] none)) rfl (fun K hK => ?_) AllReadyH.nil)
                    · skip
                      go_simp
                      refine hK.out _ _ ?_ (fun hHeld => ?_)
                      · exact HY.out _ _ (HK.out _ HG.out.2)
                      clear hK K
                      (try simp only [Act.put, List.setIfInBounds_toArray, List.set_cons_zero, List.set_cons_succ])
                      refine wpAnyH_done (by kernel_rfl) ?_ _
                      go_wp2
                      go_end0
                      have P := HN.out.1.opned HG.out.1 HG.out.2
                      have hwr : Wr F w _ := ((HA.out.2.1.drewN 1).trans HN.out.2 (Grew.refl _ _)).trans P.2 (fun k hk => hk.imp id fun h => Nat.le_trans (Nat.le_of_lt hwz) h.1)
                      exact ⟨rfl, _, P.1.disk, fun k hk => by
                        rcases hk with (hk | hk) | hk
                        · exact .inl hk
                        · exact .inr (Nat.le_trans (Nat.le_of_lt hwz) hk.1)
                        · exact .inr (Nat.le_trans (Nat.le_of_lt HZ.out) hk.1), hwr⟩
            · skip
              go_simp
              refine hK.out _ _ ?_ (fun hHeld => ?_)
              · first | exact ⟨k0, k1, k2, k3⟩ | exact HK.out _ (Below.refl _ _).drew | exact HK.out _ (HD.out _)
              clear hK K
              (try simp only [Act.put, List.setIfInBounds_toArray, List.set_cons_zero, List.set_cons_succ])
              refine wpAnyH_take (i := 14) (oi := (Go.Oper.mk (some 27) (Go.Op.call (Go.Call.mk (Go.Callee.builtin Go.Builtin.len) #[Go.Operand.tmp 26] #[50])) 3 _ #[Go.Edge.mk 13 Go.Ground.data] none)) (v := ?_) rfl (by kernel_rfl) (by kernel_rfl) (by kernel_rfl) (fun _ _ _ h => h) (Or.inl ⟨by rfl, ?_⟩) hHeld ?_
              rotate_left
              · intro w hSw; (try dsimp only at hSw); go_simp; (try with_reducible rfl)
              simp only [Act.put, List.setIfInBounds_toArray, List.set_cons_zero, List.set_cons_succ]
              refine wpAnyH_ready (rs := [8, 17]) (by kernel_rfl) (by simp) ?_
              refine (AllReadyH.cons (o := (Go.Oper.mk (some 21) (Go.Op.load 50 (Go.Operand.tmp 20)) 50 _ #[Go.Edge.mk 7 Go.Ground.data] none)) rfl (fun K hK => ?_) (AllReadyH.cons (o := (Go.Oper.mk (some 30) (Go.Op.buildSlice 50 1 #[(0, Go.Operand.tmp 29)]) 50 _ #[Go.Edge.mk 16 Go.Ground.data] none)) rfl (fun K hK => ?_) AllReadyH.nil))
              · skip
                go_simp
                refine hK.out _ _ ?_ (fun hHeld => ?_)
                · first | exact ⟨k0, k1, k2, k3⟩ | exact HK.out _ (Below.refl _ _).drew | exact HK.out _ (HD.out _)
                clear hK K
                (try simp only [Act.put, List.setIfInBounds_toArray, List.set_cons_zero, List.set_cons_succ])
                refine wpAnyH_take (i := 9) (oi := (Go.Oper.mk (some 22) (Go.Op.call (Go.Call.mk (Go.Callee.builtin Go.Builtin.len) #[Go.Operand.tmp 21] #[50])) 3 _ #[Go.Edge.mk 8 Go.Ground.data] none)) (v := ?_) rfl (by kernel_rfl) (by kernel_rfl) (by kernel_rfl) (fun _ _ _ h => h) (Or.inl ⟨by rfl, ?_⟩) hHeld ?_
                rotate_left
                · intro w hSw; (try dsimp only at hSw); go_simp; (try with_reducible rfl)
                simp only [Act.put, List.setIfInBounds_toArray, List.set_cons_zero, List.set_cons_succ]
                refine wpAnyH_take (i := 15) (oi := (Go.Oper.mk (some 28) (Go.Op.slice 50 (Go.Operand.tmp 17) none (some (Go.Operand.tmp 22)) (some (Go.Operand.tmp 27))) 50 _ #[Go.Edge.mk 4 Go.Ground.data, Go.Edge.mk 9 Go.Ground.data, Go.Edge.mk 14 Go.Ground.data] none)) (v := ?_) rfl (by kernel_rfl) (by kernel_rfl) (by kernel_rfl) (fun _ _ _ h => h) (Or.inl ⟨by rfl, ?_⟩) hHeld ?_
                rotate_left
                · intro w hSw; (try dsimp only at hSw); go_simp; (try with_reducible rfl)
                simp only [Act.put, List.setIfInBounds_toArray, List.set_cons_zero, List.set_cons_succ]
                refine wpAnyH_ready (rs := [17]) (by kernel_rfl) (by simp) ?_
                refine (AllReadyH.cons (o := (Go.Oper.mk (some 30) (Go.Op.buildSlice 50 1 #[(0, Go.Operand.tmp 29)]) 50 _ #[Go.Edge.mk 16 Go.Ground.data] none)) rfl (fun K hK => ?_) AllReadyH.nil)
                · skip
                  go_simp
                  refine hK.out _ _ ?_ (fun hHeld => ?_)
                  · first | exact ⟨k0, k1, k2, k3⟩ | exact HK.out _ (Below.refl _ _).drew | exact HK.out _ (HD.out _)
                  clear hK K
                  (try simp only [Act.put, List.setIfInBounds_toArray, List.set_cons_zero, List.set_cons_succ])
                  refine wpAnyH_ready (rs := [18]) (by kernel_rfl) (by simp) ?_
                  refine (AllReadyH.cons (o := (Go.Oper.mk (some 31) (Go.Op.call (Go.Call.mk (Go.Callee.builtin Go.Builtin.append) #[Go.Operand.tmp 28, Go.Operand.tmp 30] #[50, 50])) 50 _ #[Go.Edge.mk 15 Go.Ground.data, Go.Edge.mk 17 Go.Ground.data] none)) rfl (fun K hK => ?_) AllReadyH.nil)
                  · skip
                    (refine step_append_grows rfl _ _ _ rfl 98 i0 _ 4 48 Try.underlying50 hi hz0 hz1 hz2 rfl (by omega) _ _ _ (S.opn.flatMap rcCells) rfl HO.out.2.2.1 HO.out.2.1 (HO.out.1 _ (HD.out _)) ⟨wn.heap.size, 0, none⟩ 1 1 [x0, x1, x2, x3] rfl rfl (World.news_of_block (cs := #[x0, x1, x2, x3]) (t := 98) (fr := (0, 0)) (heap_alloc_new wn _)) (by simp [o0, o1, o2, o3]) (by omega) hb1 hb2 ?_); intro v5 w5 hown5 hgrow5; have HG := grown_open hown5 hgrow5 (HD.out _) HO.out.2.2.2 hxl hblt HC3.out; obtain ⟨a5, n5, q5, rfl⟩ := HG.1; obtain ⟨HG1, c5, f5⟩ := HG.2; replace HG := Lib.hid HG1; clear HG1 hown5 hgrow5
                    refine hK.out _ _ ?_ (fun hHeld => ?_)
                    · exact HK.out _ HG.out.2
                    clear hK K
                    (try simp only [Act.put, List.setIfInBounds_toArray, List.set_cons_zero, List.set_cons_succ])
                    refine wpAnyH_take (i := 19) (oi := (Go.Oper.mk (some 32) (Go.Op.nilCheck (Go.Operand.tmp 13)) 0 _ #[Go.Edge.mk 0 Go.Ground.data, Go.Edge.mk 0 Go.Ground.phase, Go.Edge.mk 1 Go.Ground.phase, Go.Edge.mk 2 Go.Ground.phase, Go.Edge.mk 3 Go.Ground.phase, Go.Edge.mk 4 Go.Ground.phase, Go.Edge.mk 5 Go.Ground.phase, Go.Edge.mk 6 Go.Ground.phase, Go.Edge.mk 7 Go.Ground.phase, Go.Edge.mk 8 Go.Ground.phase, Go.Edge.mk 9 Go.Ground.phase, Go.Edge.mk 10 Go.Ground.phase, Go.Edge.mk 11 Go.Ground.phase, Go.Edge.mk 12 Go.Ground.phase, Go.Edge.mk 13 Go.Ground.phase, Go.Edge.mk 14 Go.Ground.phase, Go.Edge.mk 15 Go.Ground.phase, Go.Edge.mk 16 Go.Ground.phase, Go.Edge.mk 17 Go.Ground.phase, Go.Edge.mk 18 Go.Ground.phase] none)) (v := ?_) rfl (by kernel_rfl) (by kernel_rfl) (by kernel_rfl) (fun _ _ _ h => h) (Or.inl ⟨by rfl, ?_⟩) hHeld ?_
                    rotate_left
                    · intro w hSw; (try dsimp only at hSw); go_simp; (try with_reducible rfl)
                    simp only [Act.put, List.setIfInBounds_toArray, List.set_cons_zero, List.set_cons_succ]
                    refine wpAnyH_take (i := 20) (oi := (Go.Oper.mk (some 33) (Go.Op.fieldAddr 52 (Go.Operand.tmp 32) 3) 0 _ #[Go.Edge.mk 19 Go.Ground.data, Go.Edge.mk 0 Go.Ground.phase, Go.Edge.mk 1 Go.Ground.phase, Go.Edge.mk 2 Go.Ground.phase, Go.Edge.mk 3 Go.Ground.phase, Go.Edge.mk 4 Go.Ground.phase, Go.Edge.mk 5 Go.Ground.phase, Go.Edge.mk 6 Go.Ground.phase, Go.Edge.mk 7 Go.Ground.phase, Go.Edge.mk 8 Go.Ground.phase, Go.Edge.mk 9 Go.Ground.phase, Go.Edge.mk 10 Go.Ground.phase, Go.Edge.mk 11 Go.Ground.phase, Go.Edge.mk 12 Go.Ground.phase, Go.Edge.mk 13 Go.Ground.phase, Go.Edge.mk 14 Go.Ground.phase, Go.Edge.mk 15 Go.Ground.phase, Go.Edge.mk 16 Go.Ground.phase, Go.Edge.mk 17 Go.Ground.phase, Go.Edge.mk 18 Go.Ground.phase] none)) (v := ?_) rfl (by kernel_rfl) (by kernel_rfl) (by kernel_rfl) (fun _ _ _ h => h) (Or.inl ⟨by rfl, ?_⟩) hHeld ?_
                    rotate_left
                    · intro w hSw; (try dsimp only at hSw); go_simp; (try with_reducible rfl)
                    simp only [Act.put, List.setIfInBounds_toArray, List.set_cons_zero, List.set_cons_succ]
                    refine wpAnyH_ready (rs := [21]) (by kernel_rfl) (by simp) ?_
                    refine (AllReadyH.cons (o := (Go.Oper.mk none (Go.Op.store 50 (Go.Operand.tmp 33) (Go.Operand.tmp 31)) 0 _ #[Go.Edge.mk 20 Go.Ground.data, Go.Edge.mk 18 Go.Ground.data, Go.Edge.mk 18 Go.Ground.chain, Go.Edge.mk 0 Go.Ground.phase, Go.Edge.mk 1 Go.Ground.phase, Go.Edge.mk 2 Go.Ground.phase, Go.Edge.mk 3 Go.Ground.phase, Go.Edge.mk 4 Go.Ground.phase, Go.Edge.mk 5 Go.Ground.phase, Go.Edge.mk 6 Go.Ground.phase, Go.Edge.mk 7 Go.Ground.phase, Go.Edge.mk 8 Go.Ground.phase, Go.Edge.mk 9 Go.Ground.phase, Go.Edge.mk 10 Go.Ground.phase, Go.Edge.mk 11 Go.Ground.phase, Go.Edge.mk 12 Go.Ground.phase, Go.Edge.mk 13 Go.Ground.phase, Go.Edge.mk 14 Go.Ground.phase, Go.Edge.mk 15 Go.Ground.phase, Go.Edge.mk 16 Go.Ground.phase, Go.Edge.mk 17 Go.Ground.phase, Go.Edge.mk 18 Go.Ground.phase] none)) rfl (fun K hK => ?_) AllReadyH.nil)
                    · skip
                      go_simp
                      refine hK.out _ _ ?_ (fun hHeld => ?_)
                      · exact HY.out _ _ (HK.out _ HG.out.2)
                      clear hK K
                      (try simp only [Act.put, List.setIfInBounds_toArray, List.set_cons_zero, List.set_cons_succ])
                      refine wpAnyH_done (by kernel_rfl) ?_ _
                      go_wp2
                      go_end0
                      have P := HN.out.1.opned HG.out.1 HG.out.2
                      have hwr : Wr F w _ := ((HA.out.2.1.drewN 1).trans HN.out.2 (Grew.refl _ _)).trans P.2 (fun k hk => hk.imp id fun h => Nat.le_trans (Nat.le_of_lt hwz) h.1)
                      exact ⟨rfl, _, P.1.disk, fun k hk => by
                        rcases hk with (hk | hk) | hk
                        · exact .inl hk
                        · exact .inr (Nat.le_trans (Nat.le_of_lt hwz) hk.1)
                        · exact .inr (Nat.le_trans (Nat.le_of_lt HZ.out) hk.1), hwr⟩
              · skip
                go_simp
                refine hK.out _ _ ?_ (fun hHeld => ?_)
                · first | exact ⟨k0, k1, k2, k3⟩ | exact HK.out _ (Below.refl _ _).drew | exact HK.out _ (HD.out _)
                clear hK K
                (try simp only [Act.put, List.setIfInBounds_toArray, List.set_cons_zero, List.set_cons_succ])
                refine wpAnyH_ready (rs := [8]) (by kernel_rfl) (by simp) ?_
                refine (AllReadyH.cons (o := (Go.Oper.mk (some 21) (Go.Op.load 50 (Go.Operand.tmp 20)) 50 _ #[Go.Edge.mk 7 Go.Ground.data] none)) rfl (fun K hK => ?_) AllReadyH.nil)
                · skip
                  go_simp
                  refine hK.out _ _ ?_ (fun hHeld => ?_)
                  · first | exact ⟨k0, k1, k2, k3⟩ | exact HK.out _ (Below.refl _ _).drew | exact HK.out _ (HD.out _)
                  clear hK K
                  (try simp only [Act.put, List.setIfInBounds_toArray, List.set_cons_zero, List.set_cons_succ])
                  refine wpAnyH_take (i := 9) (oi := (Go.Oper.mk (some 22) (Go.Op.call (Go.Call.mk (Go.Callee.builtin Go.Builtin.len) #[Go.Operand.tmp 21] #[50])) 3 _ #[Go.Edge.mk 8 Go.Ground.data] none)) (v := ?_) rfl (by kernel_rfl) (by kernel_rfl) (by kernel_rfl) (fun _ _ _ h => h) (Or.inl ⟨by rfl, ?_⟩) hHeld ?_
                  rotate_left
                  · intro w hSw; (try dsimp only at hSw); go_simp; (try with_reducible rfl)
                  simp only [Act.put, List.setIfInBounds_toArray, List.set_cons_zero, List.set_cons_succ]
                  refine wpAnyH_take (i := 15) (oi := (Go.Oper.mk (some 28) (Go.Op.slice 50 (Go.Operand.tmp 17) none (some (Go.Operand.tmp 22)) (some (Go.Operand.tmp 27))) 50 _ #[Go.Edge.mk 4 Go.Ground.data, Go.Edge.mk 9 Go.Ground.data, Go.Edge.mk 14 Go.Ground.data] none)) (v := ?_) rfl (by kernel_rfl) (by kernel_rfl) (by kernel_rfl) (fun _ _ _ h => h) (Or.inl ⟨by rfl, ?_⟩) hHeld ?_
                  rotate_left
                  · intro w hSw; (try dsimp only at hSw); go_simp; (try with_reducible rfl)
                  simp only [Act.put, List.setIfInBounds_toArray, List.set_cons_zero, List.set_cons_succ]
                  refine wpAnyH_ready (rs := [18]) (by kernel_rfl) (by simp) ?_
                  refine (AllReadyH.cons (o := (Go.Oper.mk (some 31) (Go.Op.call (Go.Call.mk (Go.Callee.builtin Go.Builtin.append) #[Go.Operand.tmp 28, Go.Operand.tmp 30] #[50, 50])) 50 _ #[Go.Edge.mk 15 Go.Ground.data, Go.Edge.mk 17 Go.Ground.data] none)) rfl (fun K hK => ?_) AllReadyH.nil)
                  · skip
                    (refine step_append_grows rfl _ _ _ rfl 98 i0 _ 4 48 Try.underlying50 hi hz0 hz1 hz2 rfl (by omega) _ _ _ (S.opn.flatMap rcCells) rfl HO.out.2.2.1 HO.out.2.1 (HO.out.1 _ (HD.out _)) ⟨wn.heap.size, 0, none⟩ 1 1 [x0, x1, x2, x3] rfl rfl (World.news_of_block (cs := #[x0, x1, x2, x3]) (t := 98) (fr := (0, 0)) (heap_alloc_new wn _)) (by simp [o0, o1, o2, o3]) (by omega) hb1 hb2 ?_); intro v5 w5 hown5 hgrow5; have HG := grown_open hown5 hgrow5 (HD.out _) HO.out.2.2.2 hxl hblt HC3.out; obtain ⟨a5, n5, q5, rfl⟩ := HG.1; obtain ⟨HG1, c5, f5⟩ := HG.2; replace HG := Lib.hid HG1; clear HG1 hown5 hgrow5
                    refine hK.out _ _ ?_ (fun hHeld => ?_)
                    · exact HK.out _ HG.out.2
                    clear hK K
                    (try simp only [Act.put, List.setIfInBounds_toArray, List.set_cons_zero, List.set_cons_succ])
                    refine wpAnyH_take (i := 19) (oi := (Go.Oper.mk (some 32) (Go.Op.nilCheck (Go.Operand.tmp 13)) 0 _ #[Go.Edge.mk 0 Go.Ground.data, Go.Edge.mk 0 Go.Ground.phase, Go.Edge.mk 1 Go.Ground.phase, Go.Edge.mk 2 Go.Ground.phase, Go.Edge.mk 3 Go.Ground.phase, Go.Edge.mk 4 Go.Ground.phase, Go.Edge.mk 5 Go.Ground.phase, Go.Edge.mk 6 Go.Ground.phase, Go.Edge.mk 7 Go.Ground.phase, Go.Edge.mk 8 Go.Ground.phase, Go.Edge.mk 9 Go.Ground.phase, Go.Edge.mk 10 Go.Ground.phase, Go.Edge.mk 11 Go.Ground.phase, Go.Edge.mk 12 Go.Ground.phase, Go.Edge.mk 13 Go.Ground.phase, Go.Edge.mk 14 Go.Ground.phase, Go.Edge.mk 15 Go.Ground.phase, Go.Edge.mk 16 Go.Ground.phase, Go.Edge.mk 17 Go.Ground.phase, Go.Edge.mk 18 Go.Ground.phase] none)) (v := ?_) rfl (by kernel_rfl) (by kernel_rfl) (by kernel_rfl) (fun _ _ _ h => h) (Or.inl ⟨by rfl, ?_⟩) hHeld ?_
                    rotate_left
                    · intro w hSw; (try dsimp only at hSw); go_simp; (try with_reducible rfl)
                    simp only [Act.put, List.setIfInBounds_toArray, List.set_cons_zero, List.set_cons_succ]
                    refine wpAnyH_take (i := 20) (oi := (Go.Oper.mk (some 33) (Go.Op.fieldAddr 52 (Go.Operand.tmp 32) 3) 0 _ #[Go.Edge.mk 19 Go.Ground.data, Go.Edge.mk 0 Go.Ground.phase, Go.Edge.mk 1 Go.Ground.phase, Go.Edge.mk 2 Go.Ground.phase, Go.Edge.mk 3 Go.Ground.phase, Go.Edge.mk 4 Go.Ground.phase, Go.Edge.mk 5 Go.Ground.phase, Go.Edge.mk 6 Go.Ground.phase, Go.Edge.mk 7 Go.Ground.phase, Go.Edge.mk 8 Go.Ground.phase, Go.Edge.mk 9 Go.Ground.phase, Go.Edge.mk 10 Go.Ground.phase, Go.Edge.mk 11 Go.Ground.phase, Go.Edge.mk 12 Go.Ground.phase, Go.Edge.mk 13 Go.Ground.phase, Go.Edge.mk 14 Go.Ground.phase, Go.Edge.mk 15 Go.Ground.phase, Go.Edge.mk 16 Go.Ground.phase, Go.Edge.mk 17 Go.Ground.phase, Go.Edge.mk 18 Go.Ground.phase] none)) (v := ?_) rfl (by kernel_rfl) (by kernel_rfl) (by kernel_rfl) (fun _ _ _ h => h) (Or.inl ⟨by rfl, ?_⟩) hHeld ?_
                    rotate_left
                    · intro w hSw; (try dsimp only at hSw); go_simp; (try with_reducible rfl)
                    simp only [Act.put, List.setIfInBounds_toArray, List.set_cons_zero, List.set_cons_succ]
                    refine wpAnyH_ready (rs := [21]) (by kernel_rfl) (by simp) ?_
                    refine (AllReadyH.cons (o := (Go.Oper.mk none (Go.Op.store 50 (Go.Operand.tmp 33) (Go.Operand.tmp 31)) 0 _ #[Go.Edge.mk 20 Go.Ground.data, Go.Edge.mk 18 Go.Ground.data, Go.Edge.mk 18 Go.Ground.chain, Go.Edge.mk 0 Go.Ground.phase, Go.Edge.mk 1 Go.Ground.phase, Go.Edge.mk 2 Go.Ground.phase, Go.Edge.mk 3 Go.Ground.phase, Go.Edge.mk 4 Go.Ground.phase, Go.Edge.mk 5 Go.Ground.phase, Go.Edge.mk 6 Go.Ground.phase, Go.Edge.mk 7 Go.Ground.phase, Go.Edge.mk 8 Go.Ground.phase, Go.Edge.mk 9 Go.Ground.phase, Go.Edge.mk 10 Go.Ground.phase, Go.Edge.mk 11 Go.Ground.phase, Go.Edge.mk 12 Go.Ground.phase, Go.Edge.mk 13 Go.Ground.phase, Go.Edge.mk 14 Go.Ground.phase, Go.Edge.mk 15 Go.Ground.phase, Go.Edge.mk 16 Go.Ground.phase, Go.Edge.mk 17 Go.Ground.phase, Go.Edge.mk 18 Go.Ground.phase] none)) rfl (fun K hK => ?_) AllReadyH.nil)
                    · skip
                      go_simp
                      refine hK.out _ _ ?_ (fun hHeld => ?_)
                      · exact HY.out _ _ (HK.out _ HG.out.2)
                      clear hK K
                      (try simp only [Act.put, List.setIfInBounds_toArray, List.set_cons_zero, List.set_cons_succ])
                      refine wpAnyH_done (by kernel_rfl) ?_ _
                      go_wp2
                      go_end0
                      have P := HN.out.1.opned HG.out.1 HG.out.2
                      have hwr : Wr F w _ := ((HA.out.2.1.drewN 1).trans HN.out.2 (Grew.refl _ _)).trans P.2 (fun k hk => hk.imp id fun h => Nat.le_trans (Nat.le_of_lt hwz) h.1)
                      exact ⟨rfl, _, P.1.disk, fun k hk => by
                        rcases hk with (hk | hk) | hk
                        · exact .inl hk
                        · exact .inr (Nat.le_trans (Nat.le_of_lt hwz) hk.1)
                        · exact .inr (Nat.le_trans (Nat.le_of_lt HZ.out) hk.1), hwr⟩
            · skip
              go_simp
              refine hK.out _ _ ?_ (fun hHeld => ?_)
              · first | exact ⟨k0, k1, k2, k3⟩ | exact HK.out _ (Below.refl _ _).drew | exact HK.out _ (HD.out _)
              clear hK K
              (try simp only [Act.put, List.setIfInBounds_toArray, List.set_cons_zero, List.set_cons_succ])
              refine wpAnyH_ready (rs := [8, 13]) (by kernel_rfl) (by simp) ?_
              refine (AllReadyH.cons (o := (Go.Oper.mk (some 21) (Go.Op.load 50 (Go.Operand.tmp 20)) 50 _ #[Go.Edge.mk 7 Go.Ground.data] none)) rfl (fun K hK => ?_) (AllReadyH.cons (o := (Go.Oper.mk (some 26) (Go.Op.load 50 (Go.Operand.tmp 25)) 50 _ #[Go.Edge.mk 12 Go.Ground.data] none)) rfl (fun K hK => ?_) AllReadyH.nil))
              · skip
                go_simp
                refine hK.out _ _ ?_ (fun hHeld => ?_)
                · first | exact ⟨k0, k1, k2, k3⟩ | exact HK.out _ (Below.refl _ _).drew | exact HK.out _ (HD.out _)
                clear hK K
                (try simp only [Act.put, List.setIfInBounds_toArray, List.set_cons_zero, List.set_cons_succ])
                refine wpAnyH_take (i := 9) (oi := (Go.Oper.mk (some 22) (Go.Op.call (Go.Call.mk (Go.Callee.builtin Go.Builtin.len) #[Go.Operand.tmp 21] #[50])) 3 _ #[Go.Edge.mk 8 Go.Ground.data] none)) (v := ?_) rfl (by kernel_rfl) (by kernel_rfl) (by kernel_rfl) (fun _ _ _ h => h) (Or.inl ⟨by rfl, ?_⟩) hHeld ?_
                rotate_left
                · intro w hSw; (try dsimp only at hSw); go_simp; (try with_reducible rfl)
                simp only [Act.put, List.setIfInBounds_toArray, List.set_cons_zero, List.set_cons_succ]
                refine wpAnyH_ready (rs := [13]) (by kernel_rfl) (by simp) ?_
                refine (AllReadyH.cons (o := (Go.Oper.mk (some 26) (Go.Op.load 50 (Go.Operand.tmp 25)) 50 _ #[Go.Edge.mk 12 Go.Ground.data] none)) rfl (fun K hK => ?_) AllReadyH.nil)
                · skip
                  go_simp
                  refine hK.out _ _ ?_ (fun hHeld => ?_)
                  · first | exact ⟨k0, k1, k2, k3⟩ | exact HK.out _ (Below.refl _ _).drew | exact HK.out _ (HD.out _)
                  clear hK K
                  (try simp only [Act.put, List.setIfInBounds_toArray, List.set_cons_zero, List.set_cons_succ])
                  refine wpAnyH_take (i := 14) (oi := (Go.Oper.mk (some 27) (Go.Op.call (Go.Call.mk (Go.Callee.builtin Go.Builtin.len) #[Go.Operand.tmp 26] #[50])) 3 _ #[Go.Edge.mk 13 Go.Ground.data] none)) (v := ?_) rfl (by kernel_rfl) (by kernel_rfl) (by kernel_rfl) (fun _ _ _ h => h) (Or.inl ⟨by rfl, ?_⟩) hHeld ?_
                  rotate_left
                  · intro w hSw; (try dsimp only at hSw); go_simp; (try with_reducible rfl)
                  simp only [Act.put, List.setIfInBounds_toArray, List.set_cons_zero, List.set_cons_succ]
                  refine wpAnyH_take (i := 15) (oi := (Go.Oper.mk (some 28) (Go.Op.slice 50 (Go.Operand.tmp 17) none (some (Go.Operand.tmp 22)) (some (Go.Operand.tmp 27))) 50 _ #[Go.Edge.mk 4 Go.Ground.data, Go.Edge.mk 9 Go.Ground.data, Go.Edge.mk 14 Go.Ground.data] none)) (v := ?_) rfl (by kernel_rfl) (by kernel_rfl) (by kernel_rfl) (fun _ _ _ h => h) (Or.inl ⟨by rfl, ?_⟩) hHeld ?_
                  rotate_left
                  · intro w hSw; (try dsimp only at hSw); go_simp; (try with_reducible rfl)
                  simp only [Act.put, List.setIfInBounds_toArray, List.set_cons_zero, List.set_cons_succ]
                  refine wpAnyH_ready (rs := [18]) (by kernel_rfl) (by simp) ?_
                  refine (AllReadyH.cons (o := (Go.Oper.mk (some 31) (Go.Op.call (Go.Call.mk (Go.Callee.builtin Go.Builtin.append) #[Go.Operand.tmp 28, Go.Operand.tmp 30] #[50, 50])) 50 _ #[Go.Edge.mk 15 Go.Ground.data, Go.Edge.mk 17 Go.Ground.data] none)) rfl (fun K hK => ?_) AllReadyH.nil)
                  · skip
                    (refine step_append_grows rfl _ _ _ rfl 98 i0 _ 4 48 Try.underlying50 hi hz0 hz1 hz2 rfl (by omega) _ _ _ (S.opn.flatMap rcCells) rfl HO.out.2.2.1 HO.out.2.1 (HO.out.1 _ (HD.out _)) ⟨wn.heap.size, 0, none⟩ 1 1 [x0, x1, x2, x3] rfl rfl (World.news_of_block (cs := #[x0, x1, x2, x3]) (t := 98) (fr := (0, 0)) (heap_alloc_new wn _)) (by simp [o0, o1, o2, o3]) (by omega) hb1 hb2 ?_); intro v5 w5 hown5 hgrow5; have HG := grown_open hown5 hgrow5 (HD.out _) HO.out.2.2.2 hxl hblt HC3.out; obtain ⟨a5, n5, q5, rfl⟩ := HG.1; obtain ⟨HG1, c5, f5⟩ := HG.2; replace HG := Lib.hid HG1; clear HG1 hown5 hgrow5
                    refine hK.out _ _ ?_ (fun hHeld => ?_)
                    · exact HK.out _ HG.out.2
                    clear hK K
                    (try simp only [Act.put, List.setIfInBounds_toArray, List.set_cons_zero, List.set_cons_succ])
                    refine wpAnyH_take (i := 19) (oi := (Go.Oper.mk (some 32) (Go.Op.nilCheck (Go.Operand.tmp 13)) 0 _ #[Go.Edge.mk 0 Go.Ground.data, Go.Edge.mk 0 Go.Ground.phase, Go.Edge.mk 1 Go.Ground.phase, Go.Edge.mk 2 Go.Ground.phase, Go.Edge.mk 3 Go.Ground.phase, Go.Edge.mk 4 Go.Ground.phase, Go.Edge.mk 5 Go.Ground.phase, Go.Edge.mk 6 Go.Ground.phase, Go.Edge.mk 7 Go.Ground.phase, Go.Edge.mk 8 Go.Ground.phase, Go.Edge.mk 9 Go.Ground.phase, Go.Edge.mk 10 Go.Ground.phase, Go.Edge.mk 11 Go.Ground.phase, Go.Edge.mk 12 Go.Ground.phase, Go.Edge.mk 13 Go.Ground.phase, Go.Edge.mk 14 Go.Ground.phase, Go.Edge.mk 15 Go.Ground.phase, Go.Edge.mk 16 Go.Ground.phase, Go.Edge.mk 17 Go.Ground.phase, Go.Edge.mk 18 Go.Ground.phase] none)) (v := ?_) rfl (by kernel_rfl) (by kernel_rfl) (by kernel_rfl) (fun _ _ _ h => h) (Or.inl ⟨by rfl, ?_⟩) hHeld ?_
                    rotate_left
                    · intro w hSw; (try dsimp only at hSw); go_simp; (try with_reducible rfl)
                    simp only [Act.put, List.setIfInBounds_toArray, List.set_cons_zero, List.set_cons_succ]
                    refine wpAnyH_take (i := 20) (oi := (Go.Oper.mk (some 33) (Go.Op.fieldAddr 52 (Go.Operand.tmp 32) 3) 0 _ #[Go.Edge.mk 19 Go.Ground.data, Go.Edge.mk 0 Go.Ground.phase, Go.Edge.mk 1 Go.Ground.phase, Go.Edge.mk 2 Go.Ground.phase, Go.Edge.mk 3 Go.Ground.phase, Go.Edge.mk 4 Go.Ground.phase, Go.Edge.mk 5 Go.Ground.phase, Go.Edge.mk 6 Go.Ground.phase, Go.Edge.mk 7 Go.Ground.phase, Go.Edge.mk 8 Go.Ground.phase, Go.Edge.mk 9 Go.Ground.phase, Go.Edge.mk 10 Go.Ground.phase, Go.Edge.mk 11 Go.Ground.phase, Go.Edge.mk 12 Go.Ground.phase, Go.Edge.mk 13 Go.Ground.phase, Go.Edge.mk 14 Go.Ground.phase, Go.Edge.mk 15 Go.Ground.phase, Go.Edge.mk 16 Go.Ground.phase, Go.Edge.mk 17 Go.Ground.phase, Go.Edge.mk 18 Go.Ground.phase] none)) (v := ?_) rfl (by kernel_rfl) (by kernel_rfl) (by kernel_rfl) (fun _ _ _ h => h) (Or.inl ⟨by rfl, ?_⟩) hHeld ?_
                    rotate_left
                    · intro w hSw; (try dsimp only at hSw); go_simp; (try with_reducible rfl)
                    simp only [Act.put, List.setIfInBounds_toArray, List.set_cons_zero, List.set_cons_succ]
                    refine wpAnyH_ready (rs := [21]) (by kernel_rfl) (by simp) ?_
                    refine (AllReadyH.cons (o := (Go.Oper.mk none (Go.Op.store 50 (Go.Operand.tmp 33) (Go.Operand.tmp 31)) 0 _ #[Go.Edge.mk 20 Go.Ground.data, Go.Edge.mk 18 Go.Ground.data, Go.Edge.mk 18 Go.Ground.chain, Go.Edge.mk 0 Go.Ground.phase, Go.Edge.mk 1 Go.Ground.phase, Go.Edge.mk 2 Go.Ground.phase, Go.Edge.mk 3 Go.Ground.phase, Go.Edge.mk 4 Go.Ground.phase, Go.Edge.mk 5 Go.Ground.phase, Go.Edge.mk 6 Go.Ground.phase, Go.Edge.mk 7 Go.Ground.phase, Go.Edge.mk 8 Go.Ground.phase, Go.Edge.mk 9 Go.Ground.phase, Go.Edge.mk 10 Go.Ground.phase, Go.Edge.mk 11 Go.Ground.phase, Go.Edge.mk 12 Go.Ground.phase, Go.Edge.mk 13 Go.Ground.phase, Go.Edge.mk 14 Go.Ground.phase, Go.Edge.mk 15 Go.Ground.phase, Go.Edge.mk 16 Go.Ground.phase, Go.Edge.mk 17 Go.Ground.phase, Go.Edge.mk 18 Go.Ground.phase] none)) rfl (fun K hK => ?_) AllReadyH.nil)
                    · skip
                      go_simp
                      refine hK.out _ _ ?_ (fun hHeld => ?_)
                      · exact HY.out _ _ (HK.out _ HG.out.2)
                      clear hK K
                      (try simp only [Act.put, List.setIfInBounds_toArray, List.set_cons_zero, List.set_cons_succ])
                      refine wpAnyH_done (by kernel_rfl) ?_ _
                      go_wp2
                      go_end0
                      have P := HN.out.1.opned HG.out.1 HG.out.2
                      have hwr : Wr F w _ := ((HA.out.2.1.drewN 1).trans HN.out.2 (Grew.refl _ _)).trans P.2 (fun k hk => hk.imp id fun h => Nat.le_trans (Nat.le_of_lt hwz) h.1)
                      exact ⟨rfl, _, P.1.disk, fun k hk => by
                        rcases hk with (hk | hk) | hk
                        · exact .inl hk
                        · exact .inr (Nat.le_trans (Nat.le_of_lt hwz) hk.1)
                        · exact .inr (Nat.le_trans (Nat.le_of_lt HZ.out) hk.1), hwr⟩
              · skip
                go_simp
                refine hK.out _ _ ?_ (fun hHeld => ?_)
                · first | exact ⟨k0, k1, k2, k3⟩ | exact HK.out _ (Below.refl _ _).drew | exact HK.out _ (HD.out _)
                clear hK K
                (try simp only [Act.put, List.setIfInBounds_toArray, List.set_cons_zero, List.set_cons_succ])
                refine wpAnyH_take (i := 14) (oi := (Go.Oper.mk (some 27) (Go.Op.call (Go.Call.mk (Go.Callee.builtin Go.Builtin.len) #[Go.Operand.tmp 26] #[50])) 3 _ #[Go.Edge.mk 13 Go.Ground.data] none)) (v := ?_) rfl (by kernel_rfl) (by kernel_rfl) (by kernel_rfl) (fun _ _ _ h => h) (Or.inl ⟨by rfl, ?_⟩) hHeld ?_
                rotate_left
                · intro w hSw; (try dsimp only at hSw); go_simp; (try with_reducible rfl)
                simp only [Act.put, List.setIfInBounds_toArray, List.set_cons_zero, List.set_cons_succ]
                refine wpAnyH_ready (rs := [8]) (by kernel_rfl) (by simp) ?_
                refine (AllReadyH.cons (o := (Go.Oper.mk (some 21) (Go.Op.load 50 (Go.Operand.tmp 20)) 50 _ #[Go.Edge.mk 7 Go.Ground.data] none)) rfl (fun K hK => ?_) AllReadyH.nil)
                · skip
                  go_simp
                  refine hK.out _ _ ?_ (fun hHeld => ?_)
                  · first | exact ⟨k0, k1, k2, k3⟩ | exact HK.out _ (Below.refl _ _).drew | exact HK.out _ (HD.out _)
                  clear hK K
                  (try simp only [Act.put, List.setIfInBounds_toArray, List.set_cons_zero, List.set_cons_succ])
                  refine wpAnyH_take (i := 9) (oi := (Go.Oper.mk (some 22) (Go.Op.call (Go.Call.mk (Go.Callee.builtin Go.Builtin.len) #[Go.Operand.tmp 21] #[50])) 3 _ #[Go.Edge.mk 8 Go.Ground.data] none)) (v := ?_) rfl (by kernel_rfl) (by kernel_rfl) (by kernel_rfl) (fun _ _ _ h => h) (Or.inl ⟨by rfl, ?_⟩) hHeld ?_
                  rotate_left
                  · intro w hSw; (try dsimp only at hSw); go_simp; (try with_reducible rfl)
                  simp only [Act.put, List.setIfInBounds_toArray, List.set_cons_zero, List.set_cons_succ]
                  refine wpAnyH_take (i := 15) (oi := (Go.Oper.mk (some 28) (Go.Op.slice 50 (Go.Operand.tmp 17) none (some (Go.Operand.tmp 22)) (some (Go.Operand.tmp 27))) 50 _ #[Go.Edge.mk 4 Go.Ground.data, Go.Edge.mk 9 Go.Ground.data, Go.Edge.mk 14 Go.Ground.data] none)) (v := ?_) rfl (by kernel_rfl) (by kernel_rfl) (by kernel_rfl) (fun _ _ _ h => h) (Or.inl ⟨by rfl, ?_⟩) hHeld ?_
                  rotate_left
                  · intro w hSw; (try dsimp only at hSw); go_simp; (try with_reducible rfl)
                  simp only [Act.put, List.setIfInBounds_toArray, List.set_cons_zero, List.set_cons_succ]
                  refine wpAnyH_ready (rs := [18]) (by kernel_rfl) (by simp) ?_
                  refine (AllReadyH.cons (o := (Go.Oper.mk (some 31) (Go.Op.call (Go.Call.mk (Go.Callee.builtin Go.Builtin.append) #[Go.Operand.tmp 28, Go.Operand.tmp 30] #[50, 50])) 50 _ #[Go.Edge.mk 15 Go.Ground.data, Go.Edge.mk 17 Go.Ground.data] none)) rfl (fun K hK => ?_) AllReadyH.nil)
                  · skip
                    (refine step_append_grows rfl _ _ _ rfl 98 i0 _ 4 48 Try.underlying50 hi hz0 hz1 hz2 rfl (by omega) _ _ _ (S.opn.flatMap rcCells) rfl HO.out.2.2.1 HO.out.2.1 (HO.out.1 _ (HD.out _)) ⟨wn.heap.size, 0, none⟩ 1 1 [x0, x1, x2, x3] rfl rfl (World.news_of_block (cs := #[x0, x1, x2, x3]) (t := 98) (fr := (0, 0)) (heap_alloc_new wn _)) (by simp [o0, o1, o2, o3]) (by omega) hb1 hb2 ?_); intro v5 w5 hown5 hgrow5; have HG := grown_open hown5 hgrow5 (HD.out _) HO.out.2.2.2 hxl hblt HC3.out; obtain ⟨a5, n5, q5, rfl⟩ := HG.1; obtain ⟨HG1, c5, f5⟩ := HG.2; replace HG := Lib.hid HG1; clear HG1 hown5 hgrow5
                    refine hK.out _ _ ?_ (fun hHeld => ?_)
                    · exact HK.out _ HG.out.2
                    clear hK K
                    (try simp only [Act.put, List.setIfInBounds_toArray, List.set_cons_zero, List.set_cons_succ])
                    refine wpAnyH_take (i := 19) (oi := (Go.Oper.mk (some 32) (Go.Op.nilCheck (Go.Operand.tmp 13)) 0 _ #[Go.Edge.mk 0 Go.Ground.data, Go.Edge.mk 0 Go.Ground.phase, Go.Edge.mk 1 Go.Ground.phase, Go.Edge.mk 2 Go.Ground.phase, Go.Edge.mk 3 Go.Ground.phase, Go.Edge.mk 4 Go.Ground.phase, Go.Edge.mk 5 Go.Ground.phase, Go.Edge.mk 6 Go.Ground.phase, Go.Edge.mk 7 Go.Ground.phase, Go.Edge.mk 8 Go.Ground.phase, Go.Edge.mk 9 Go.Ground.phase, Go.Edge.mk 10 Go.Ground.phase, Go.Edge.mk 11 Go.Ground.phase, Go.Edge.mk 12 Go.Ground.phase, Go.Edge.mk 13 Go.Ground.phase, Go.Edge.mk 14 Go.Ground.phase, Go.Edge.mk 15 Go.Ground.phase, Go.Edge.mk 16 Go.Ground.phase, Go.Edge.mk 17 Go.Ground.phase, Go.Edge.mk 18 Go.Ground.phase] none)) (v := ?_) rfl (by kernel_rfl) (by kernel_rfl) (by kernel_rfl) (fun _ _ _ h => h) (Or.inl ⟨by rfl, ?_⟩) hHeld ?_
                    rotate_left
                    · intro w hSw; (try dsimp only at hSw); go_simp; (try with_reducible rfl)
                    simp only [Act.put, List.setIfInBounds_toArray, List.set_cons_zero, List.set_cons_succ]
                    refine wpAnyH_take (i := 20) (oi := (Go.Oper.mk (some 33) (Go.Op.fieldAddr 52 (Go.Operand.tmp 32) 3) 0 _ #[Go.Edge.mk 19 Go.Ground.data, Go.Edge.mk 0 Go.Ground.phase, Go.Edge.mk 1 Go.Ground.phase, Go.Edge.mk 2 Go.Ground.phase, Go.Edge.mk 3 Go.Ground.phase, Go.Edge.mk 4 Go.Ground.phase, Go.Edge.mk 5 Go.Ground.phase, Go.Edge.mk 6 Go.Ground.phase, Go.Edge.mk 7 Go.Ground.phase, Go.Edge.mk 8 Go.Ground.phase, Go.Edge.mk 9 Go.Ground.phase, Go.Edge.mk 10 Go.Ground.phase, Go.Edge.mk 11 Go.Ground.phase, Go.Edge.mk 12 Go.Ground.phase, Go.Edge.mk 13 Go.Ground.phase, Go.Edge.mk 14 Go.Ground.phase, Go.Edge.mk 15 Go.Ground.phase, Go.Edge.mk 16 Go.Ground.phase, Go.Edge.mk 17 Go.Ground.phase, Go.Edge.mk 18 Go.Ground.phase] none)) (v := ?_) rfl (by kernel_rfl) (by kernel_rfl) (by kernel_rfl) (fun _ _ _ h => h) (Or.inl ⟨by rfl, ?_⟩) hHeld ?_
                    rotate_left
                    · intro w hSw; (try dsimp only at hSw); go_simp; (try with_reducible rfl)
                    simp only [Act.put, List.setIfInBounds_toArray, List.set_cons_zero, List.set_cons_succ]
                    refine wpAnyH_ready (rs := [21]) (by kernel_rfl) (by simp) ?_
                    refine (AllReadyH.cons (o := (Go.Oper.mk none (Go.Op.store 50 (Go.Operand.tmp 33) (Go.Operand.tmp 31)) 0 _ #[Go.Edge.mk 20 Go.Ground.data, Go.Edge.mk 18 Go.Ground.data, Go.Edge.mk 18 Go.Ground.chain, Go.Edge.mk 0 Go.Ground.phase, Go.Edge.mk 1 Go.Ground.phase, Go.Edge.mk 2 Go.Ground.phase, Go.Edge.mk 3 Go.Ground.phase, Go.Edge.mk 4 Go.Ground.phase, Go.Edge.mk 5 Go.Ground.phase, Go.Edge.mk 6 Go.Ground.phase, Go.Edge.mk 7 Go.Ground.phase, Go.Edge.mk 8 Go.Ground.phase, Go.Edge.mk 9 Go.Ground.phase, Go.Edge.mk 10 Go.Ground.phase, Go.Edge.mk 11 Go.Ground.phase, Go.Edge.mk 12 Go.Ground.phase, Go.Edge.mk 13 Go.Ground.phase, Go.Edge.mk 14 Go.Ground.phase, Go.Edge.mk 15 Go.Ground.phase, Go.Edge.mk 16 Go.Ground.phase, Go.Edge.mk 17 Go.Ground.phase, Go.Edge.mk 18 Go.Ground.phase] none)) rfl (fun K hK => ?_) AllReadyH.nil)
                    · skip
                      go_simp
                      refine hK.out _ _ ?_ (fun hHeld => ?_)
                      · exact HY.out _ _ (HK.out _ HG.out.2)
                      clear hK K
                      (try simp only [Act.put, List.setIfInBounds_toArray, List.set_cons_zero, List.set_cons_succ])
                      refine wpAnyH_done (by kernel_rfl) ?_ _
                      go_wp2
                      go_end0
                      have P := HN.out.1.opned HG.out.1 HG.out.2
                      have hwr : Wr F w _ := ((HA.out.2.1.drewN 1).trans HN.out.2 (Grew.refl _ _)).trans P.2 (fun k hk => hk.imp id fun h => Nat.le_trans (Nat.le_of_lt hwz) h.1)
                      exact ⟨rfl, _, P.1.disk, fun k hk => by
                        rcases hk with (hk | hk) | hk
                        · exact .inl hk
                        · exact .inr (Nat.le_trans (Nat.le_of_lt hwz) hk.1)
                        · exact .inr (Nat.le_trans (Nat.le_of_lt HZ.out) hk.1), hwr⟩
          · skip
            go_simp
            refine hK.out _ _ ?_ (fun hHeld => ?_)
            · first | exact ⟨k0, k1, k2, k3⟩ | exact HK.out _ (Below.refl _ _).drew | exact HK.out _ (HD.out _)
            clear hK K
            (try simp only [Act.put, List.setIfInBounds_toArray, List.set_cons_zero, List.set_cons_succ])
            refine wpAnyH_take (i := 9) (oi := (Go.Oper.mk (some 22) (Go.Op.call (Go.Call.mk (Go.Callee.builtin Go.Builtin.len) #[Go.Operand.tmp 21] #[50])) 3 _ #[Go.Edge.mk 8 Go.Ground.data] none)) (v := ?_) rfl (by kernel_rfl) (by kernel_rfl) (by kernel_rfl) (fun _ _ _ h => h) (Or.inl ⟨by rfl, ?_⟩) hHeld ?_
            rotate_left
            · intro w hSw; (try dsimp only at hSw); go_simp; (try with_reducible rfl)
            simp only [Act.put, List.setIfInBounds_toArray, List.set_cons_zero, List.set_cons_succ]
            refine wpAnyH_ready (rs := [4, 13, 17]) (by kernel_rfl) (by simp) ?_
            refine (AllReadyH.cons (o := (Go.Oper.mk (some 17) (Go.Op.load 50 (Go.Operand.tmp 16)) 50 _ #[Go.Edge.mk 3 Go.Ground.data] none)) rfl (fun K hK => ?_) (AllReadyH.cons (o := (Go.Oper.mk (some 26) (Go.Op.load 50 (Go.Operand.tmp 25)) 50 _ #[Go.Edge.mk 12 Go.Ground.data] none)) rfl (fun K hK => ?_) (AllReadyH.cons (o := (Go.Oper.mk (some 30) (Go.Op.buildSlice 50 1 #[(0, Go.Operand.tmp 29)]) 50 _ #[Go.Edge.mk 16 Go.Ground.data] none)) rfl (fun K hK => ?_) AllReadyH.nil)))
            · skip
              go_simp
              refine hK.out _ _ ?_ (fun hHeld => ?_)
              · first | exact ⟨k0, k1, k2, k3⟩ | exact HK.out _ (Below.refl _ _).drew | exact HK.out _ (HD.out _)
              clear hK K
              (try simp only [Act.put, List.setIfInBounds_toArray, List.set_cons_zero, List.set_cons_succ])
              refine wpAnyH_ready (rs := [13, 17]) (by kernel_rfl) (by simp) ?_
              refine (AllReadyH.cons (o := (Go.Oper.mk (some 26) (Go.Op.load 50 (Go.Operand.tmp 25)) 50 _ #[Go.Edge.mk 12 Go.Ground.data] none)) rfl (fun K hK => ?_) (AllReadyH.cons (o := (Go.Oper.mk (some 30) (Go.Op.buildSlice 50 1 #[(0, Go.Operand.tmp 29)]) 50 _ #[Go.Edge.mk 16 Go.Ground.data] none)) rfl (fun K hK => ?_) AllReadyH.nil))
              · skip
                go_simp
                refine hK.out _ _ ?_ (fun hHeld => ?_)
                · first | exact ⟨k0, k1, k2, k3⟩ | exact HK.out _ (Below.refl _ _).drew | exact HK.out _ (HD.out _)
                clear hK K
                (try simp only [Act.put, List.setIfInBounds_toArray, List.set_cons_zero, List.set_cons_succ])
                refine wpAnyH_take (i := 14) (oi := (Go.Oper.mk (some 27) (Go.Op.call (Go.Call.mk (Go.Callee.builtin Go.Builtin.len) #[Go.Operand.tmp 26] #[50])) 3 _ #[Go.Edge.mk 13 Go.Ground.data] none)) (v := ?_) rfl (by kernel_rfl) (by kernel_rfl) (by kernel_rfl) (fun _ _ _ h => h) (Or.inl ⟨by rfl, ?_⟩) hHeld ?_
                rotate_left
                · intro w hSw; (try dsimp only at hSw); go_simp; (try with_reducible rfl)
                simp only [Act.put, List.setIfInBounds_toArray, List.set_cons_zero, List.set_cons_succ]
                refine wpAnyH_take (i := 15) (oi := (Go.Oper.mk (some 28) (Go.Op.slice 50 (Go.Operand.tmp 17) none (some (Go.Operand.tmp 22)) (some (Go.Operand.tmp 27))) 50 _ #[Go.Edge.mk 4 Go.Ground.data, Go.Edge.mk 9 Go.Ground.data, Go.Edge.mk 14 Go.Ground.data] none)) (v := ?_) rfl (by kernel_rfl) (by kernel_rfl) (by kernel_rfl) (fun _ _ _ h => h) (Or.inl ⟨by rfl, ?_⟩) hHeld ?_
                rotate_left
                · intro w hSw; (try dsimp only at hSw); go_simp; (try with_reducible rfl)
                simp only [Act.put, List.setIfInBounds_toArray, List.set_cons_zero, List.set_cons_succ]
                refine wpAnyH_ready (rs := [17]) (by kernel_rfl) (by simp) ?_
                refine (AllReadyH.cons (o := (Go.Oper.mk (some 30) (Go.Op.buildSlice 50 1 #[(0, Go.Operand.tmp 29)]) 50 _ #[Go.Edge.mk 16 Go.Ground.data] none)) rfl (fun K hK => ?_) AllReadyH.nil)
                · skip
                  go_simp
                  refine hK.out _ _ ?_ (fun hHeld => ?_)
                  · first | exact ⟨k0, k1, k2, k3⟩ | exact HK.out _ (Below.refl _ _).drew | exact HK.out _ (HD.out _)
                  clear hK K
                  (try simp only [Act.put, List.setIfInBounds_toArray, List.set_cons_zero, List.set_cons_succ])
                  refine wpAnyH_ready (rs := [18]) (by kernel_rfl) (by simp) ?_
                  refine (AllReadyH.cons (o := (Go.Oper.mk (some 31) (Go.Op.call (Go.Call.mk (Go.Callee.builtin Go.Builtin.append) #[Go.Operand.tmp 28, Go.Operand.tmp 30] #[50, 50])) 50 _ #[Go.Edge.mk 15 Go.Ground.data, Go.Edge.mk 17 Go.Ground.data] none)) rfl (fun K hK => ?_) AllReadyH.nil)
                  · skip
                    (refine step_append_grows rfl _ _ _ rfl 98 i0 _ 4 48 Try.underlying50 hi hz0 hz1 hz2 rfl (by omega) _ _ _ (S.opn.flatMap rcCells) rfl HO.out.2.2.1 HO.out.2.1 (HO.out.1 _ (HD.out _)) ⟨wn.heap.size, 0, none⟩ 1 1 [x0, x1, x2, x3] rfl rfl (World.news_of_block (cs := #[x0, x1, x2, x3]) (t := 98) (fr := (0, 0)) (heap_alloc_new wn _)) (by simp [o0, o1, o2, o3]) (by omega) hb1 hb2 ?_); intro v5 w5 hown5 hgrow5; have HG := grown_open hown5 hgrow5 (HD.out _) HO.out.2.2.2 hxl hblt HC3.out; obtain ⟨a5, n5, q5, rfl⟩ := HG.1; obtain ⟨HG1, c5, f5⟩ := HG.2; replace HG := Lib.hid HG1; clear HG1 hown5 hgrow5
                    refine hK.out _ _ ?_ (fun hHeld => ?_)
                    · exact HK.out _ HG.out.2
                    clear hK K
                    (try simp only [Act.put, List.setIfInBounds_toArray, List.set_cons_zero, List.set_cons_succ])
                    refine wpAnyH_take (i := 19) (oi := (Go.Oper.mk (some 32) (Go.Op.nilCheck (Go.Operand.tmp 13)) 0 _ #[Go.Edge.mk 0 Go.Ground.data, Go.Edge.mk 0 Go.Ground.phase, Go.Edge.mk 1 Go.Ground.phase, Go.Edge.mk 2 Go.Ground.phase, Go.Edge.mk 3 Go.Ground.phase, Go.Edge.mk 4 Go.Ground.phase, Go.Edge.mk 5 Go.Ground.phase, Go.Edge.mk 6 Go.Ground.phase, Go.Edge.mk 7 Go.Ground.phase, Go.Edge.mk 8 Go.Ground.phase, Go.Edge.mk 9 Go.Ground.phase, Go.Edge.mk 10 Go.Ground.phase, Go.Edge.mk 11 Go.Ground.phase, Go.Edge.mk 12 Go.Ground.phase, Go.Edge.mk 13 Go.Ground.phase, Go.Edge.mk 14 Go.Ground.phase, Go.Edge.mk 15 Go.Ground.phase, Go.Edge.mk 16 Go.Ground.phase, Go.Edge.mk 17 Go.Ground.phase, Go.Edge.mk 18 Go.Ground.phase] none)) (v := ?_) rfl (by kernel_rfl) (by kernel_rfl) (by kernel_rfl) (fun _ _ _ h => h) (Or.inl ⟨by rfl, ?_⟩) hHeld ?_
                    rotate_left
                    · intro w hSw; (try dsimp only at hSw); go_simp; (try with_reducible rfl)
                    simp only [Act.put, List.setIfInBounds_toArray, List.set_cons_zero, List.set_cons_succ]
                    refine wpAnyH_take (i := 20) (oi := (Go.Oper.mk (some 33) (Go.Op.fieldAddr 52 (Go.Operand.tmp 32) 3) 0 _ #[Go.Edge.mk 19 Go.Ground.data, Go.Edge.mk 0 Go.Ground.phase, Go.Edge.mk 1 Go.Ground.phase, Go.Edge.mk 2 Go.Ground.phase, Go.Edge.mk 3 Go.Ground.phase, Go.Edge.mk 4 Go.Ground.phase, Go.Edge.mk 5 Go.Ground.phase, Go.Edge.mk 6 Go.Ground.phase, Go.Edge.mk 7 Go.Ground.phase, Go.Edge.mk 8 Go.Ground.phase, Go.Edge.mk 9 Go.Ground.phase, Go.Edge.mk 10 Go.Ground.phase, Go.Edge.mk 11 Go.Ground.phase, Go.Edge.mk 12 Go.Ground.phase, Go.Edge.mk 13 Go.Ground.phase, Go.Edge.mk 14 Go.Ground.phase, Go.Edge.mk 15 Go.Ground.phase, Go.Edge.mk 16 Go.Ground.phase, Go.Edge.mk 17 Go.Ground.phase, Go.Edge.mk 18 Go.Ground.phase] none)) (v := ?_) rfl (by kernel_rfl) (by kernel_rfl) (by kernel_rfl) (fun _ _ _ h => h) (Or.inl ⟨by rfl, ?_⟩) hHeld ?_
                    rotate_left
                    · intro w hSw; (try dsimp only at hSw); go_simp; (try with_reducible rfl)
                    simp only [Act.put, List.setIfInBounds_toArray, List.set_cons_zero, List.set_cons_succ]
                    refine wpAnyH_ready (rs := [21]) (by kernel_rfl) (by simp) ?_
                    refine (AllReadyH.cons (o := (Go.Oper.mk none (Go.Op.store 50 (Go.Operand.tmp 33) (Go.Operand.tmp 31)) 0 _ #[Go.Edge.mk 20 Go.Ground.data, Go.Edge.mk 18 Go.Ground.data, Go.Edge.mk 18 Go.Ground.chain, Go.Edge.mk 0 Go.Ground.phase, Go.Edge.mk 1 Go.Ground.phase, Go.Edge.mk 2 Go.Ground.phase, Go.Edge.mk 3 Go.Ground.phase, Go.Edge.mk 4 Go.Ground.phase, Go.Edge.mk 5 Go.Ground.phase, Go.Edge.mk 6 Go.Ground.phase, Go.Edge.mk 7 Go.Ground.phase, Go.Edge.mk 8 Go.Ground.phase, Go.Edge.mk 9 Go.Ground.phase, Go.Edge.mk 10 Go.Ground.phase, Go.Edge.mk 11 Go.Ground.phase, Go.Edge.mk 12 Go.Ground.phase, Go.Edge.mk 13 Go.Ground.phase, Go.Edge.mk 14 Go.Ground.phase, Go.Edge.mk 15 Go.Ground.phase, Go.Edge.mk 16 Go.Ground.phase, Go.Edge.mk 17 Go.Ground.phase, Go.Edge.mk 18 Go.Ground.phase] none)) rfl (fun K hK => ?_) AllReadyH.nil)
                    · skip
                      go_simp
                      refine hK.out _ _ ?_ (fun hHeld => ?_)
                      · exact HY.out _ _ (HK.out _ HG.out.2)
                      clear hK K
                      (try simp only [Act.put, List.setIfInBounds_toArray, List.set_cons_zero, List.set_cons_succ])
                      refine wpAnyH_done (by kernel_rfl) ?_ _
                      go_wp2
                      go_end0
                      have P := HN.out.1.opned HG.out.1 HG.out.2
                      have hwr : Wr F w _ := ((HA.out.2.1.drewN 1).trans HN.out.2 (Grew.refl _ _)).trans P.2 (fun k hk => hk.imp id fun h => Nat.le_trans (Nat.le_of_lt hwz) h.1)
                      exact ⟨rfl, _, P.1.disk, fun k hk => by
                        rcases hk with (hk | hk) | hk
                        · exact .inl hk
                        · exact .inr (Nat.le_trans (Nat.le_of_lt hwz) hk.1)
                        · exact .inr (Nat.le_trans (Nat.le_of_lt HZ.out) hk.1), hwr⟩
              · skip
                go_simp
                refine hK.out _ _ ?_ (fun hHeld => ?_)
                · first | exact ⟨k0, k1, k2, k3⟩ | exact HK.out _ (Below.refl _ _).drew | exact HK.out _ (HD.out _)
                clear hK K
                (try simp only [Act.put, List.setIfInBounds_toArray, List.set_cons_zero, List.set_cons_succ])
                refine wpAnyH_ready (rs := [13]) (by kernel_rfl) (by simp) ?_
                refine (AllReadyH.cons (o := (Go.Oper.mk (some 26) (Go.Op.load 50 (Go.Operand.tmp 25)) 50 _ #[Go.Edge.mk 12 Go.Ground.data] none)) rfl (fun K hK => ?_) AllReadyH.nil)
                · skip
                  go_simp
                  refine hK.out _ _ ?_ (fun hHeld => ?_)
                  · first | exact ⟨k0, k1, k2, k3⟩ | exact HK.out _ (Below.refl _ _).drew | exact HK.out _ (HD.out _)
                  clear hK K
                  (try simp only [Act.put, List.setIfInBounds_toArray, List.set_cons_zero, List.set_cons_succ])
                  refine wpAnyH_take (i := 14) (oi := (Go.Oper.mk (some 27) (Go.Op.call (Go.Call.mk (Go.Callee.builtin Go.Builtin.len) #[Go.Operand.tmp 26] #[50])) 3 _ #[Go.Edge.mk 13 Go.Ground.data] none)) (v := ?_) rfl (by kernel_rfl) (by kernel_rfl) (by kernel_rfl) (fun _ _ _ h => h) (Or.inl ⟨by rfl, ?_⟩) hHeld ?_
                  rotate_left
                  · intro w hSw; (try dsimp only at hSw); go_simp; (try with_reducible rfl)
                  simp only [Act.put, List.setIfInBounds_toArray, List.set_cons_zero, List.set_cons_succ]
                  refine wpAnyH_take (i := 15) (oi := (Go.Oper.mk (some 28) (Go.Op.slice 50 (Go.Operand.tmp 17) none (some (Go.Operand.tmp 22)) (some (Go.Operand.tmp 27))) 50 _ #[Go.Edge.mk 4 Go.Ground.data, Go.Edge.mk 9 Go.Ground.data, Go.Edge.mk 14 Go.Ground.data] none)) (v := ?_) rfl (by kernel_rfl) (by kernel_rfl) (by kernel_rfl) (fun _ _ _ h => h) (Or.inl ⟨by rfl, ?_⟩) hHeld ?_
                  rotate_left
                  · intro w hSw; (try dsimp only at hSw); go_simp; (try with_reducible rfl)
                  simp only [Act.put, List.setIfInBounds_toArray, List.set_cons_zero, List.set_cons_succ]
                  refine wpAnyH_ready (rs := [18]) (by kernel_rfl) (by simp) ?_
                  refine (AllReadyH.cons (o := (Go.Oper.mk (some 31) (Go.Op.call (Go.Call.mk (Go.Callee.builtin Go.Builtin.append) #[Go.Operand.tmp 28, Go.Operand.tmp 30] #[50, 50])) 50 _ #[Go.Edge.mk 15 Go.Ground.data, Go.Edge.mk 17 Go.Ground.data] none)) rfl (fun K hK => ?_) AllReadyH.nil)
                  · skip
                    (refine step_append_grows rfl _ _ _ rfl 98 i0 _ 4 48 Try.underlying50 hi hz0 hz1 hz2 rfl (by omega) _ _ _ (S.opn.flatMap rcCells) rfl HO.out.2.2.1 HO.out.2.1 (HO.out.1 _ (HD.out _)) ⟨wn.heap.size, 0, none⟩ 1 1 [x0, x1, x2, x3] rfl rfl (World.news_of_block (cs := #[x0, x1, x2, x3]) (t := 98) (fr := (0, 0)) (heap_alloc_new wn _)) (by simp [o0, o1, o2, o3]) (by omega) hb1 hb2 ?_); intro v5 w5 hown5 hgrow5; have HG := grown_open hown5 hgrow5 (HD.out _) HO.out.2.2.2 hxl hblt HC3.out; obtain ⟨a5, n5, q5, rfl⟩ := HG.1; obtain ⟨HG1, c5, f5⟩ := HG.2; replace HG := Lib.hid HG1; clear HG1 hown5 hgrow5
                    refine hK.out _ _ ?_ (fun hHeld => ?_)
                    · exact HK.out _ HG.out.2
                    clear hK K
                    (try simp only [Act.put, List.setIfInBounds_toArray, List.set_cons_zero, List.set_cons_succ])
                    refine wpAnyH_take (i := 19) (oi := (Go.Oper.mk (some 32) (Go.Op.nilCheck (Go.Operand.tmp 13)) 0 _ #[Go.Edge.mk 0 Go.Ground.data, Go.Edge.mk 0 Go.Ground.phase, Go.Edge.mk 1 Go.Ground.phase, Go.Edge.mk 2 Go.Ground.phase, Go.Edge.mk 3 Go.Ground.phase, Go.Edge.mk 4 Go.Ground.phase, Go.Edge.mk 5 Go.Ground.phase, Go.Edge.mk 6 Go.Ground.phase, Go.Edge.mk 7 Go.Ground.phase, Go.Edge.mk 8 Go.Ground.phase, Go.Edge.mk 9 Go.Ground.phase, Go.Edge.mk 10 Go.Ground.phase, Go.Edge.mk 11 Go.Ground.phase, Go.Edge.mk 12 Go.Ground.phase, Go.Edge.mk 13 Go.Ground.phase, Go.Edge.mk 14 Go.Ground.phase, Go.Edge.mk 15 Go.Ground.phase, Go.Edge.mk 16 Go.Ground.phase, Go.Edge.mk 17 Go.Ground.phase, Go.Edge.mk 18 Go.Ground.phase] none)) (v := ?_) rfl (by kernel_rfl) (by kernel_rfl) (by kernel_rfl) (fun _ _ _ h => h) (Or.inl ⟨by rfl, ?_⟩) hHeld ?_
                    rotate_left
                    · intro w hSw; (try dsimp only at hSw); go_simp; (try with_reducible rfl)
                    simp only [Act.put, List.setIfInBounds_toArray, List.set_cons_zero, List.set_cons_succ]
                    refine wpAnyH_take (i := 20) (oi := (Go.Oper.mk (some 33) (Go.Op.fieldAddr 52 (Go.Operand.tmp 32) 3) 0 _ #[Go.Edge.mk 19 Go.Ground.data, Go.Edge.mk 0 Go.Ground.phase, Go.Edge.mk 1 Go.Ground.phase, Go.Edge.mk 2 Go.Ground.phase, Go.Edge.mk 3 Go.Ground.phase, Go.Edge.mk 4 Go.Ground.phase, Go.Edge.mk 5 Go.Ground.phase, Go.Edge.mk 6 Go.Ground.phase, Go.Edge.mk 7 Go.Ground.phase, Go.Edge.mk 8 Go.Ground.phase, Go.Edge.mk 9 Go.Ground.phase, Go.Edge.mk 10 Go.Ground.phase, Go.Edge.mk 11 Go.Ground.phase, Go.Edge.mk 12 Go.Ground.phase, Go.Edge.mk 13 Go.Ground.phase, Go.Edge.mk 14 Go.Ground.phase, Go.Edge.mk 15 Go.Ground.phase, Go.Edge.mk 16 Go.Ground.phase, Go.Edge.mk 17 Go.Ground.phase, Go.Edge.mk 18 Go.Ground.phase] none)) (v := ?_) rfl (by kernel_rfl) (by kernel_rfl) (by kernel_rfl) (fun _ _ _ h => h) (Or.inl ⟨by rfl, ?_⟩) hHeld ?_
                    rotate_left
                    · intro w hSw; (try dsimp only at hSw); go_simp; (try with_reducible rfl)
                    simp only [Act.put, List.setIfInBounds_toArray, List.set_cons_zero, List.set_cons_succ]
                    refine wpAnyH_ready (rs := [21]) (by kernel_rfl) (by simp) ?_
                    refine (AllReadyH.cons (o := (Go.Oper.mk none (Go.Op.store 50 (Go.Operand.tmp 33) (Go.Operand.tmp 31)) 0 _ #[Go.Edge.mk 20 Go.Ground.data, Go.Edge.mk 18 Go.Ground.data, Go.Edge.mk 18 Go.Ground.chain, Go.Edge.mk 0 Go.Ground.phase, Go.Edge.mk 1 Go.Ground.phase, Go.Edge.mk 2 Go.Ground.phase, Go.Edge.mk 3 Go.Ground.phase, Go.Edge.mk 4 Go.Ground.phase, Go.Edge.mk 5 Go.Ground.phase, Go.Edge.mk 6 Go.Ground.phase, Go.Edge.mk 7 Go.Ground.phase, Go.Edge.mk 8 Go.Ground.phase, Go.Edge.mk 9 Go.Ground.phase, Go.Edge.mk 10 Go.Ground.phase, Go.Edge.mk 11 Go.Ground.phase, Go.Edge.mk 12 Go.Ground.phase, Go.Edge.mk 13 Go.Ground.phase, Go.Edge.mk 14 Go.Ground.phase, Go.Edge.mk 15 Go.Ground.phase, Go.Edge.mk 16 Go.Ground.phase, Go.Edge.mk 17 Go.Ground.phase, Go.Edge.mk 18 Go.Ground.phase] none)) rfl (fun K hK => ?_) AllReadyH.nil)
                    · skip
                      go_simp
                      refine hK.out _ _ ?_ (fun hHeld => ?_)
                      · exact HY.out _ _ (HK.out _ HG.out.2)
                      clear hK K
                      (try simp only [Act.put, List.setIfInBounds_toArray, List.set_cons_zero, List.set_cons_succ])
                      refine wpAnyH_done (by kernel_rfl) ?_ _
                      go_wp2
                      go_end0
                      have P := HN.out.1.opned HG.out.1 HG.out.2
                      have hwr : Wr F w _ := ((HA.out.2.1.drewN 1).trans HN.out.2 (Grew.refl _ _)).trans P.2 (fun k hk => hk.imp id fun h => Nat.le_trans (Nat.le_of_lt hwz) h.1)
                      exact ⟨rfl, _, P.1.disk, fun k hk => by
                        rcases hk with (hk | hk) | hk
                        · exact .inl hk
                        · exact .inr (Nat.le_trans (Nat.le_of_lt hwz) hk.1)
                        · exact .inr (Nat.le_trans (Nat.le_of_lt HZ.out) hk.1), hwr⟩
            · skip
              go_simp
              refine hK.out _ _ ?_ (fun hHeld => ?_)
              · first | exact ⟨k0, k1, k2, k3⟩ | exact HK.out _ (Below.refl _ _).drew | exact HK.out _ (HD.out _)
              clear hK K
              (try simp only [Act.put, List.setIfInBounds_toArray, List.set_cons_zero, List.set_cons_succ])
              refine wpAnyH_take (i := 14) (oi := (Go.Oper.mk (some 27) (Go.Op.call (Go.Call.mk (Go.Callee.builtin Go.Builtin.len) #[Go.Operand.tmp 26] #[50])) 3 _ #[Go.Edge.mk 13 Go.Ground.data] none)) (v := ?_) rfl (by kernel_rfl) (by kernel_rfl) (by kernel_rfl) (fun _ _ _ h => h) (Or.inl ⟨by rfl, ?_⟩) hHeld ?_
              rotate_left
              · intro w hSw; (try dsimp only at hSw); go_simp; (try with_reducible rfl)
              simp only [Act.put, List.setIfInBounds_toArray, List.set_cons_zero, List.set_cons_succ]
              refine wpAnyH_ready (rs := [4, 17]) (by kernel_rfl) (by simp) ?_
              refine (AllReadyH.cons (o := (Go.Oper.mk (some 17) (Go.Op.load 50 (Go.Operand.tmp 16)) 50 _ #[Go.Edge.mk 3 Go.Ground.data] none)) rfl (fun K hK => ?_) (AllReadyH.cons (o := (Go.Oper.mk (some 30) (Go.Op.buildSlice 50 1 #[(0, Go.Operand.tmp 29)]) 50 _ #[Go.Edge.mk 16 Go.Ground.data] none)) rfl (fun K hK => ?_) AllReadyH.nil))
              · skip
                go_simp
                refine hK.out _ _ ?_ (fun hHeld => ?_)
                · first | exact ⟨k0, k1, k2, k3⟩ | exact HK.out _ (Below.refl _ _).drew | exact HK.out _ (HD.out _)
                clear hK K
                (try simp only [Act.put, List.setIfInBounds_toArray, List.set_cons_zero, List.set_cons_succ])
                refine wpAnyH_take (i := 15) (oi := (Go.Oper.mk (some 28) (Go.Op.slice 50 (Go.Operand.tmp 17) none (some (Go.Operand.tmp 22)) (some (Go.Operand.tmp 27))) 50 _ #[Go.Edge.mk 4 Go.Ground.data, Go.Edge.mk 9 Go.Ground.data, Go.Edge.mk 14 Go.Ground.data] none)) (v := ?_) rfl (by kernel_rfl) (by kernel_rfl) (by kernel_rfl) (fun _ _ _ h => h) (Or.inl ⟨by rfl, ?_⟩) hHeld ?_
                rotate_left
                · intro w hSw; (try dsimp only at hSw); go_simp; (try with_reducible rfl)
                simp only [Act.put, List.setIfInBounds_toArray, List.set_cons_zero, List.set_cons_succ]
                refine wpAnyH_ready (rs := [17]) (by kernel_rfl) (by simp) ?_
                refine (AllReadyH.cons (o := (Go.Oper.mk (some 30) (Go.Op.buildSlice 50 1 #[(0, Go.Operand.tmp 29)]) 50 _ #[Go.Edge.mk 16 Go.Ground.data] none)) rfl (fun K hK => ?_) AllReadyH.nil)
                · skip
                  go_simp
                  refine hK.out _ _ ?_ (fun hHeld => ?_)
                  · first | exact ⟨k0, k1, k2, k3⟩ | exact HK.out _ (Below.refl _ _).drew | exact HK.out _ (HD.out _)
                  clear hK K
                  (try simp only [Act.put, List.setIfInBounds_toArray, List.set_cons_zero, List.set_cons_succ])
                  refine wpAnyH_ready (rs := [18]) (by kernel_rfl) (by simp) ?_
                  refine (AllReadyH.cons (o := (Go.Oper.mk (some 31) (Go.Op.call (Go.Call.mk (Go.Callee.builtin Go.Builtin.append) #[Go.Operand.tmp 28, Go.Operand.tmp 30] #[50, 50])) 50 _ #[Go.Edge.mk 15 Go.Ground.data, Go.Edge.mk 17 Go.Ground.data] none)) rfl (fun K hK => ?_) AllReadyH.nil)
                  · skip
                    (refine step_append_grows rfl _ _ _ rfl 98 i0 _ 4 48 Try.underlying50 hi hz0 hz1 hz2 rfl (by omega) _ _ _ (S.opn.flatMap rcCells) rfl HO.out.2.2.1 HO.out.2.1 (HO.out.1 _ (HD.out _)) ⟨wn.heap.size, 0, none⟩ 1 1 [x0, x1, x2, x3] rfl rfl (World.news_of_block (cs := #[x0, x1, x2, x3]) (t := 98) (fr := (0, 0)) (heap_alloc_new wn _)) (by simp [o0, o1, o2, o3]) (by omega) hb1 hb2 ?_); intro v5 w5 hown5 hgrow5; have HG := grown_open hown5 hgrow5 (HD.out _) HO.out.2.2.2 hxl hblt HC3.out; obtain ⟨a5, n5, q5, rfl⟩ := HG.1; obtain ⟨HG1, c5, f5⟩ := HG.2; replace HG := Lib.hid HG1; clear HG1 hown5 hgrow5
                    refine hK.out _ _ ?_ (fun hHeld => ?_)
                    · exact HK.out _ HG.out.2
                    clear hK K
                    (try simp only [Act.put, List.setIfInBounds_toArray, List.set_cons_zero, List.set_cons_succ])
                    refine wpAnyH_take (i := 19) (oi := (Go.Oper.mk (some 32) (Go.Op.nilCheck (Go.Operand.tmp 13)) 0 _ #[Go.Edge.mk 0 Go.Ground.data, Go.Edge.mk 0 Go.Ground.phase, Go.Edge.mk 1 Go.Ground.phase, Go.Edge.mk 2 Go.Ground.phase, Go.Edge.mk 3 Go.Ground.phase, Go.Edge.mk 4 Go.Ground.phase, Go.Edge.mk 5 Go.Ground.phase, Go.Edge.mk 6 Go.Ground.phase, Go.Edge.mk 7 Go.Ground.phase, Go.Edge.mk 8 Go.Ground.phase, Go.Edge.mk 9 Go.Ground.phase, Go.Edge.mk 10 Go.Ground.phase, Go.Edge.mk 11 Go.Ground.phase, Go.Edge.mk 12 Go.Ground.phase, Go.Edge.mk 13 Go.Ground.phase, Go.Edge.mk 14 Go.Ground.phase, Go.Edge.mk 15 Go.Ground.phase, Go.Edge.mk 16 Go.Ground.phase, Go.Edge.mk 17 Go.Ground.phase, Go.Edge.mk 18 Go.Ground.phase] none)) (v := ?_) rfl (by kernel_rfl) (by kernel_rfl) (by kernel_rfl) (fun _ _ _ h => h) (Or.inl ⟨by rfl, ?_⟩) hHeld ?_
                    rotate_left
                    · intro w hSw; (try dsimp only at hSw); go_simp; (try with_reducible rfl)
                    simp only [Act.put, List.setIfInBounds_toArray, List.set_cons_zero, List.set_cons_succ]
                    refine wpAnyH_take (i := 20) (oi := (Go.Oper.mk (some 33) (Go.Op.fieldAddr 52 (Go.Operand.tmp 32) 3) 0 _ #[Go.Edge.mk 19 Go.Ground.data, Go.Edge.mk 0 Go.Ground.phase, Go.Edge.mk 1 Go.Ground.phase, Go.Edge.mk 2 Go.Ground.phase, Go.Edge.mk 3 Go.Ground.phase, Go.Edge.mk 4 Go.Ground.phase, Go.Edge.mk 5 Go.Ground.phase, Go.Edge.mk 6 Go.Ground.phase, Go.Edge.mk 7 Go.Ground.phase, Go.Edge.mk 8 Go.Ground.phase, Go.Edge.mk 9 Go.Ground.phase, Go.Edge.mk 10 Go.Ground.phase, Go.Edge.mk 11 Go.Ground.phase, Go.Edge.mk 12 Go.Ground.phase, Go.Edge.mk 13 Go.Ground.phase, Go.Edge.mk 14 Go.Ground.phase, Go.Edge.mk 15 Go.Ground.phase, Go.Edge.mk 16 Go.Ground.phase, Go.Edge.mk 17 Go.Ground.phase, Go.Edge.mk 18 Go.Ground.phase] none)) (v := ?_) rfl (by kernel_rfl) (by kernel_rfl) (by kernel_rfl) (fun _ _ _ h => h) (Or.inl ⟨by rfl, ?_⟩) hHeld ?_
                    rotate_left
                    · intro w hSw; (try dsimp only at hSw); go_simp; (try with_reducible rfl)
                    simp only [Act.put, List.setIfInBounds_toArray, List.set_cons_zero, List.set_cons_succ]
                    refine wpAnyH_ready (rs := [21]) (by kernel_rfl) (by simp) ?_
                    refine (AllReadyH.cons (o := (Go.Oper.mk none (Go.Op.store 50 (Go.Operand.tmp 33) (Go.Operand.tmp 31)) 0 _ #[Go.Edge.mk 20 Go.Ground.data, Go.Edge.mk 18 Go.Ground.data, Go.Edge.mk 18 Go.Ground.chain, Go.Edge.mk 0 Go.Ground.phase, Go.Edge.mk 1 Go.Ground.phase, Go.Edge.mk 2 Go.Ground.phase, Go.Edge.mk 3 Go.Ground.phase, Go.Edge.mk 4 Go.Ground.phase, Go.Edge.mk 5 Go.Ground.phase, Go.Edge.mk 6 Go.Ground.phase, Go.Edge.mk 7 Go.Ground.phase, Go.Edge.mk 8 Go.Ground.phase, Go.Edge.mk 9 Go.Ground.phase, Go.Edge.mk 10 Go.Ground.phase, Go.Edge.mk 11 Go.Ground.phase, Go.Edge.mk 12 Go.Ground.phase, Go.Edge.mk 13 Go.Ground.phase, Go.Edge.mk 14 Go.Ground.phase, Go.Edge.mk 15 Go.Ground.phase, Go.Edge.mk 16 Go.Ground.phase, Go.Edge.mk 17 Go.Ground.phase, Go.Edge.mk 18 Go.Ground.phase] none)) rfl (fun K hK => ?_) AllReadyH.nil)
                    · skip
                      go_simp
                      refine hK.out _ _ ?_ (fun hHeld => ?_)
                      · exact HY.out _ _ (HK.out _ HG.out.2)
                      clear hK K
                      (try simp only [Act.put, List.setIfInBounds_toArray, List.set_cons_zero, List.set_cons_succ])
                      refine wpAnyH_done (by kernel_rfl) ?_ _
                      go_wp2
                      go_end0
                      have P := HN.out.1.opned HG.out.1 HG.out.2
                      have hwr : Wr F w _ := ((HA.out.2.1.drewN 1).trans HN.out.2 (Grew.refl _ _)).trans P.2 (fun k hk => hk.imp id fun h => Nat.le_trans (Nat.le_of_lt hwz) h.1)
                      exact ⟨rfl, _, P.1.disk, fun k hk => by
                        rcases hk with (hk | hk) | hk
                        · exact .inl hk
                        · exact .inr (Nat.le_trans (Nat.le_of_lt hwz) hk.1)
                        · exact .inr (Nat.le_trans (Nat.le_of_lt HZ.out) hk.1), hwr⟩
              · skip
                go_simp
                refine hK.out _ _ ?_ (fun hHeld => ?_)
                · first | exact ⟨k0, k1, k2, k3⟩ | exact HK.out _ (Below.refl _ _).drew | exact HK.out _ (HD.out _)
                clear hK K
                (try simp only [Act.put, List.setIfInBounds_toArray, List.set_cons_zero, List.set_cons_succ])
                refine wpAnyH_ready (rs := [4]) (by kernel_rfl) (by simp) ?_
                refine (AllReadyH.cons (o := (Go.Oper.mk (some 17) (Go.Op.load 50 (Go.Operand.tmp 16)) 50 _ #[Go.Edge.mk 3 Go.Ground.data] none)) rfl (fun K hK => ?_) AllReadyH.nil)
                · skip
                  go_simp
                  refine hK.out _ _ ?_ (fun hHeld => ?_)
                  · first | exact ⟨k0, k1, k2, k3⟩ | exact HK.out _ (Below.refl _ _).drew | exact HK.out _ (HD.out _)
                  clear hK K
                  (try simp only [Act.put, List.setIfInBounds_toArray, List.set_cons_zero, List.set_cons_succ])
                  refine wpAnyH_take (i := 15) (oi := (Go.Oper.mk (some 28) (Go.Op.slice 50 (Go.Operand.tmp 17) none (some (Go.Operand.tmp 22)) (some (Go.Operand.tmp 27))) 50 _ #[Go.Edge.mk 4 Go.Ground.data, Go.Edge.mk 9 Go.Ground.data, Go.Edge.mk 14 Go.Ground.data] none)) (v := ?_) rfl (by kernel_rfl) (by kernel_rfl) (by kernel_rfl) (fun _ _ _ h => h) (Or.inl ⟨by rfl, ?_⟩) hHeld ?_
                  rotate_left
                  · intro w hSw; (try dsimp only at hSw); go_simp; (try with_reducible rfl)
                  simp only [Act.put, List.setIfInBounds_toArray, List.set_cons_zero, List.set_cons_succ]
                  refine wpAnyH_ready (rs := [18]) (by kernel_rfl) (by simp) ?_
                  refine (AllReadyH.cons (o := (Go.Oper.mk (some 31) (Go.Op.call (Go.Call.mk (Go.Callee.builtin Go.Builtin.append) #[Go.Operand.tmp 28, Go.Operand.tmp 30] #[50, 50])) 50 _ #[Go.Edge.mk 15 Go.Ground.data, Go.Edge.mk 17 Go.Ground.data] none)) rfl (fun K hK => ?_) AllReadyH.nil)
                  · skip
                    (refine step_append_grows rfl _ _ _ rfl 98 i0 _ 4 48 Try.underlying50 hi hz0 hz1 hz2 rfl (by omega) _ _ _ (S.opn.flatMap rcCells) rfl HO.out.2.2.1 HO.out.2.1 (HO.out.1 _ (HD.out _)) ⟨wn.heap.size, 0, none⟩ 1 1 [x0, x1, x2, x3] rfl rfl (World.news_of_block (cs := #[x0, x1, x2, x3]) (t := 98) (fr := (0, 0)) (heap_alloc_new wn _)) (by simp [o0, o1, o2, o3]) (by omega) hb1 hb2 ?_); intro v5 w5 hown5 hgrow5; have HG := grown_open hown5 hgrow5 (HD.out _) HO.out.2.2.2 hxl hblt HC3.out; obtain ⟨a5, n5, q5, rfl⟩ := HG.1; obtain ⟨HG1, c5, f5⟩ := HG.2; replace HG := Lib.hid HG1; clear HG1 hown5 hgrow5
                    refine hK.out _ _ ?_ (fun hHeld => ?_)
                    · exact HK.out _ HG.out.2
                    clear hK K
                    (try simp only [Act.put, List.setIfInBounds_toArray, List.set_cons_zero, List.set_cons_succ])
                    refine wpAnyH_take (i := 19) (oi := (Go.Oper.mk (some 32) (Go.Op.nilCheck (Go.Operand.tmp 13)) 0 _ #[Go.Edge.mk 0 Go.Ground.data, Go.Edge.mk 0 Go.Ground.phase, Go.Edge.mk 1 Go.Ground.phase, Go.Edge.mk 2 Go.Ground.phase, Go.Edge.mk 3 Go.Ground.phase, Go.Edge.mk 4 Go.Ground.phase, Go.Edge.mk 5 Go.Ground.phase, Go.Edge.mk 6 Go.Ground.phase, Go.Edge.mk 7 Go.Ground.phase, Go.Edge.mk 8 Go.Ground.phase, Go.Edge.mk 9 Go.Ground.phase, Go.Edge.mk 10 Go.Ground.phase, Go.Edge.mk 11 Go.Ground.phase, Go.Edge.mk 12 Go.Ground.phase, Go.Edge.mk 13 Go.Ground.phase, Go.Edge.mk 14 Go.Ground.phase, Go.Edge.mk 15 Go.Ground.phase, Go.Edge.mk 16 Go.Ground.phase, Go.Edge.mk 17 Go.Ground.phase, Go.Edge.mk 18 Go.Ground.phase] none)) (v := ?_) rfl (by kernel_rfl) (by kernel_rfl) (by kernel_rfl) (fun _ _ _ h => h) (Or.inl ⟨by rfl, ?_⟩) hHeld ?_
                    rotate_left
                    · intro w hSw; (try dsimp only at hSw); go_simp; (try with_reducible rfl)
                    simp only [Act.put, List.setIfInBounds_toArray, List.set_cons_zero, List.set_cons_succ]
                    refine wpAnyH_take (i := 20) (oi := (Go.Oper.mk (some 33) (Go.Op.fieldAddr 52 (Go.Operand.tmp 32) 3) 0 _ #[Go.Edge.mk 19 Go.Ground.data, Go.Edge.mk 0 Go.Ground.phase, Go.Edge.mk 1 Go.Ground.phase, Go.Edge.mk 2 Go.Ground.phase, Go.Edge.mk 3 Go.Ground.phase, Go.Edge.mk 4 Go.Ground.phase, Go.Edge.mk 5 Go.Ground.phase, Go.Edge.mk 6 Go.Ground.phase, Go.Edge.mk 7 Go.Ground.phase, Go.Edge.mk 8 Go.Ground.phase, Go.Edge.mk 9 Go.Ground.phase, Go.Edge.mk 10 Go.Ground.phase, Go.Edge.mk 11 Go.Ground.phase, Go.Edge.mk 12 Go.Ground.phase, Go.Edge.mk 13 Go.Ground.phase, Go.Edge.mk 14 Go.Ground.phase, Go.Edge.mk 15 Go.Ground.phase, Go.Edge.mk 16 Go.Ground.phase, Go.Edge.mk 17 Go.Ground.phase, Go.Edge.mk 18 Go.Ground.phase] none)) (v := ?_) rfl (by kernel_rfl) (by kernel_rfl) (by kernel_rfl) (fun _ _ _ h => h) (Or.inl ⟨by rfl, ?_⟩) hHeld ?_
                    rotate_left
                    · intro w hSw; (try dsimp only at hSw); go_simp; (try with_reducible rfl)
                    simp only [Act.put, List.setIfInBounds_toArray, List.set_cons_zero, List.set_cons_succ]
                    refine wpAnyH_ready (rs := [21]) (by kernel_rfl) (by simp) ?_
                    refine (AllReadyH.cons (o := (Go.Oper.mk none (Go.Op.store 50 (Go.Operand.tmp 33) (Go.Operand.tmp 31)) 0 _ #[Go.Edge.mk 20 Go.Ground.data, Go.Edge.mk 18 Go.Ground.data, Go.Edge.mk 18 Go.Ground.chain, Go.Edge.mk 0 Go.Ground.phase, Go.Edge.mk 1 Go.Ground.phase, Go.Edge.mk 2 Go.Ground.phase, Go.Edge.mk 3 Go.Ground.phase, Go.Edge.mk 4 Go.Ground.phase, Go.Edge.mk 5 Go.Ground.phase, Go.Edge.mk 6 Go.Ground.phase, Go.Edge.mk 7 Go.Ground.phase, Go.Edge.mk 8 Go.Ground.phase, Go.Edge.mk 9 Go.Ground.phase, Go.Edge.mk 10 Go.Ground.phase, Go.Edge.mk 11 Go.Ground.phase, Go.Edge.mk 12 Go.Ground.phase, Go.Edge.mk 13 Go.Ground.phase, Go.Edge.mk 14 Go.Ground.phase, Go.Edge.mk 15 Go.Ground.phase, Go.Edge.mk 16 Go.Ground.phase, Go.Edge.mk 17 Go.Ground.phase, Go.Edge.mk 18 Go.Ground.phase] none)) rfl (fun K hK => ?_) AllReadyH.nil)
                    · skip
                      go_simp
                      refine hK.out _ _ ?_ (fun hHeld => ?_)
                      · exact HY.out _ _ (HK.out _ HG.out.2)
                      clear hK K
                      (try simp only [Act.put, List.setIfInBounds_toArray, List.set_cons_zero, List.set_cons_succ])
                      refine wpAnyH_done (by kernel_rfl) ?_ _
                      go_wp2
                      go_end0
                      have P := HN.out.1.opned HG.out.1 HG.out.2
                      have hwr : Wr F w _ := ((HA.out.2.1.drewN 1).trans HN.out.2 (Grew.refl _ _)).trans P.2 (fun k hk => hk.imp id fun h => Nat.le_trans (Nat.le_of_lt hwz) h.1)
                      exact ⟨rfl, _, P.1.disk, fun k hk => by
                        rcases hk with (hk | hk) | hk
                        · exact .inl hk
                        · exact .inr (Nat.le_trans (Nat.le_of_lt hwz) hk.1)
                        · exact .inr (Nat.le_trans (Nat.le_of_lt HZ.out) hk.1), hwr⟩
            · skip
              go_simp
              refine hK.out _ _ ?_ (fun hHeld => ?_)
              · first | exact ⟨k0, k1, k2, k3⟩ | exact HK.out _ (Below.refl _ _).drew | exact HK.out _ (HD.out _)
              clear hK K
              (try simp only [Act.put, List.setIfInBounds_toArray, List.set_cons_zero, List.set_cons_succ])
              refine wpAnyH_ready (rs := [4, 13]) (by kernel_rfl) (by simp) ?_
              refine (AllReadyH.cons (o := (Go.Oper.mk (some 17) (Go.Op.load 50 (Go.Operand.tmp 16)) 50 _ #[Go.Edge.mk 3 Go.Ground.data] none)) rfl (fun K hK => ?_) (AllReadyH.cons (o := (Go.Oper.mk (some 26) (Go.Op.load 50 (Go.Operand.tmp 25)) 50 _ #[Go.Edge.mk 12 Go.Ground.data] none)) rfl (fun K hK => ?_) AllReadyH.nil))
              · skip
                go_simp
                refine hK.out _ _ ?_ (fun hHeld => ?_)
                · first | exact ⟨k0, k1, k2, k3⟩ | exact HK.out _ (Below.refl _ _).drew | exact HK.out _ (HD.out _)
                clear hK K
                (try simp only [Act.put, List.setIfInBounds_toArray, List.set_cons_zero, List.set_cons_succ])
                refine wpAnyH_ready (rs := [13]) (by kernel_rfl) (by simp) ?_
                refine (AllReadyH.cons (o := (Go.Oper.mk (some 26) (Go.Op.load 50 (Go.Operand.tmp 25)) 50 _ #[Go.Edge.mk 12 Go.Ground.data] none)) rfl (fun K hK => ?_) AllReadyH.nil)
                · skip
                  go_simp
                  refine hK.out _ _ ?_ (fun hHeld => ?_)
                  · first | exact ⟨k0, k1, k2, k3⟩ | exact HK.out _ (Below.refl _ _).drew | exact HK.out _ (HD.out _)
                  clear hK K
                  (try simp only [Act.put, List.setIfInBounds_toArray, List.set_cons_zero, List.set_cons_succ])
                  refine wpAnyH_take (i := 14) (oi := (Go.Oper.mk (some 27) (Go.Op.call (Go.Call.mk (Go.Callee.builtin Go.Builtin.len) #[Go.Operand.tmp 26] #[50])) 3 _ #[Go.Edge.mk 13 Go.Ground.data] none)) (v := ?_) rfl (by kernel_rfl) (by kernel_rfl) (by kernel_rfl) (fun _ _ _ h => h) (Or.inl ⟨by rfl, ?_⟩) hHeld ?_
                  rotate_left
                  · intro w hSw; (try dsimp only at hSw); go_simp; (try with_reducible rfl)
                  simp only [Act.put, List.setIfInBounds_toArray, List.set_cons_zero, List.set_cons_succ]
                  refine wpAnyH_take (i := 15) (oi := (Go.Oper.mk (some 28) (Go.Op.slice 50 (Go.Operand.tmp 17) none (some (Go.Operand.tmp 22)) (some (Go.Operand.tmp 27))) 50 _ #[Go.Edge.mk 4 Go.Ground.data, Go.Edge.mk 9 Go.Ground.data, Go.Edge.mk 14 Go.Ground.data] none)) (v := ?_) rfl (by kernel_rfl) (by kernel_rfl) (by kernel_rfl) (fun _ _ _ h => h) (Or.inl ⟨by rfl, ?_⟩) hHeld ?_
                  rotate_left
                  · intro w hSw; (try dsimp only at hSw); go_simp; (try with_reducible rfl)
                  simp only [Act.put, List.setIfInBounds_toArray, List.set_cons_zero, List.set_cons_succ]
                  refine wpAnyH_ready (rs := [18]) (by kernel_rfl) (by simp) ?_
                  refine (AllReadyH.cons (o := (Go.Oper.mk (some 31) (Go.Op.call (Go.Call.mk (Go.Callee.builtin Go.Builtin.append) #[Go.Operand.tmp 28, Go.Operand.tmp 30] #[50, 50])) 50 _ #[Go.Edge.mk 15 Go.Ground.data, Go.Edge.mk 17 Go.Ground.data] none)) rfl (fun K hK => ?_) AllReadyH.nil)
                  · skip
                    (refine step_append_grows rfl _ _ _ rfl 98 i0 _ 4 48 Try.underlying50 hi hz0 hz1 hz2 rfl (by omega) _ _ _ (S.opn.flatMap rcCells) rfl HO.out.2.2.1 HO.out.2.1 (HO.out.1 _ (HD.out _)) ⟨wn.heap.size, 0, none⟩ 1 1 [x0, x1, x2, x3] rfl rfl (World.news_of_block (cs := #[x0, x1, x2, x3]) (t := 98) (fr := (0, 0)) (heap_alloc_new wn _)) (by simp [o0, o1, o2, o3]) (by omega) hb1 hb2 ?_); intro v5 w5 hown5 hgrow5; have HG := grown_open hown5 hgrow5 (HD.out _) HO.out.2.2.2 hxl hblt HC3.out; obtain ⟨a5, n5, q5, rfl⟩ := HG.1; obtain ⟨HG1, c5, f5⟩ := HG.2; replace HG := Lib.hid HG1; clear HG1 hown5 hgrow5
                    refine hK.out _ _ ?_ (fun hHeld => ?_)
                    · exact HK.out _ HG.out.2
                    clear hK K
                    (try simp only [Act.put, List.setIfInBounds_toArray, List.set_cons_zero, List.set_cons_succ])
                    refine wpAnyH_take (i := 19) (oi := (Go.Oper.mk (some 32) (Go.Op.nilCheck (Go.Operand.tmp 13)) 0 _ #[Go.Edge.mk 0 Go.Ground.data, Go.Edge.mk 0 Go.Ground.phase, Go.Edge.mk 1 Go.Ground.phase, Go.Edge.mk 2 Go.Ground.phase, Go.Edge.mk 3 Go.Ground.phase, Go.Edge.mk 4 Go.Ground.phase, Go.Edge.mk 5 Go.Ground.phase, Go.Edge.mk 6 Go.Ground.phase, Go.Edge.mk 7 Go.Ground.phase, Go.Edge.mk 8 Go.Ground.phase, Go.Edge.mk 9 Go.Ground.phase, Go.Edge.mk 10 Go.Ground.phase, Go.Edge.mk 11 Go.Ground.phase, Go.Edge.mk 12 Go.Ground.phase, Go.Edge.mk 13 Go.Ground.phase, Go.Edge.mk 14 Go.Ground.phase, Go.Edge.mk 15 Go.Ground.phase, Go.Edge.mk 16 Go.Ground.phase, Go.Edge.mk 17 Go.Ground.phase, Go.Edge.mk 18 Go.Ground.phase] none)) (v := ?_) rfl (by kernel_rfl) (by kernel_rfl) (by kernel_rfl) (fun _ _ _ h => h) (Or.inl ⟨by rfl, ?_⟩) hHeld ?_
                    rotate_left
                    · intro w hSw; (try dsimp only at hSw); go_simp; (try with_reducible rfl)
                    simp only [Act.put, List.setIfInBounds_toArray, List.set_cons_zero, List.set_cons_succ]
                    refine wpAnyH_take (i := 20) (oi := (Go.Oper.mk (some 33) (Go.Op.fieldAddr 52 (Go.Operand.tmp 32) 3) 0 _ #[Go.Edge.mk 19 Go.Ground.data, Go.Edge.mk 0 Go.Ground.phase, Go.Edge.mk 1 Go.Ground.phase, Go.Edge.mk 2 Go.Ground.phase, Go.Edge.mk 3 Go.Ground.phase, Go.Edge.mk 4 Go.Ground.phase, Go.Edge.mk 5 Go.Ground.phase, Go.Edge.mk 6 Go.Ground.phase, Go.Edge.mk 7 Go.Ground.phase, Go.Edge.mk 8 Go.Ground.phase, Go.Edge.mk 9 Go.Ground.phase, Go.Edge.mk 10 Go.Ground.phase, Go.Edge.mk 11 Go.Ground.phase, Go.Edge.mk 12 Go.Ground.phase, Go.Edge.mk 13 Go.Ground.phase, Go.Edge.mk 14 Go.Ground.phase, Go.Edge.mk 15 Go.Ground.phase, Go.Edge.mk 16 Go.Ground.phase, Go.Edge.mk 17 Go.Ground.phase, Go.Edge.mk 18 Go.Ground.phase] none)) (v := ?_) rfl (by kernel_rfl) (by kernel_rfl) (by kernel_rfl) (fun _ _ _ h => h) (Or.inl ⟨by rfl, ?_⟩) hHeld ?_
                    rotate_left
                    · intro w hSw; (try dsimp only at hSw); go_simp; (try with_reducible rfl)
                    simp only [Act.put, List.setIfInBounds_toArray, List.set_cons_zero, List.set_cons_succ]
                    refine wpAnyH_ready (rs := [21]) (by kernel_rfl) (by simp) ?_
                    refine (AllReadyH.cons (o := (Go.Oper.mk none (Go.Op.store 50 (Go.Operand.tmp 33) (Go.Operand.tmp 31)) 0 _ #[Go.Edge.mk 20 Go.Ground.data, Go.Edge.mk 18 Go.Ground.data, Go.Edge.mk 18 Go.Ground.chain, Go.Edge.mk 0 Go.Ground.phase, Go.Edge.mk 1 Go.Ground.phase, Go.Edge.mk 2 Go.Ground.phase, Go.Edge.mk 3 Go.Ground.phase, Go.Edge.mk 4 Go.Ground.phase, Go.Edge.mk 5 Go.Ground.phase, Go.Edge.mk 6 Go.Ground.phase, Go.Edge.mk 7 Go.Ground.phase, Go.Edge.mk 8 Go.Ground.phase, Go.Edge.mk 9 Go.Ground.phase, Go.Edge.mk 10 Go.Ground.phase, Go.Edge.mk 11 Go.Ground.phase, Go.Edge.mk 12 Go.Ground.phase, Go.Edge.mk 13 Go.Ground.phase, Go.Edge.mk 14 Go.Ground.phase, Go.Edge.mk 15 Go.Ground.phase, Go.Edge.mk 16 Go.Ground.phase, Go.Edge.mk 17 Go.Ground.phase, Go.Edge.mk 18 Go.Ground.phase] none)) rfl (fun K hK => ?_) AllReadyH.nil)
                    · skip
                      go_simp
                      refine hK.out _ _ ?_ (fun hHeld => ?_)
                      · exact HY.out _ _ (HK.out _ HG.out.2)
                      clear hK K
                      (try simp only [Act.put, List.setIfInBounds_toArray, List.set_cons_zero, List.set_cons_succ])
                      refine wpAnyH_done (by kernel_rfl) ?_ _
                      go_wp2
                      go_end0
                      have P := HN.out.1.opned HG.out.1 HG.out.2
                      have hwr : Wr F w _ := ((HA.out.2.1.drewN 1).trans HN.out.2 (Grew.refl _ _)).trans P.2 (fun k hk => hk.imp id fun h => Nat.le_trans (Nat.le_of_lt hwz) h.1)
                      exact ⟨rfl, _, P.1.disk, fun k hk => by
                        rcases hk with (hk | hk) | hk
                        · exact .inl hk
                        · exact .inr (Nat.le_trans (Nat.le_of_lt hwz) hk.1)
                        · exact .inr (Nat.le_trans (Nat.le_of_lt HZ.out) hk.1), hwr⟩
              · skip
                go_simp
                refine hK.out _ _ ?_ (fun hHeld => ?_)
                · first | exact ⟨k0, k1, k2, k3⟩ | exact HK.out _ (Below.refl _ _).drew | exact HK.out _ (HD.out _)
                clear hK K
                (try simp only [Act.put, List.setIfInBounds_toArray, List.set_cons_zero, List.set_cons_succ])
                refine wpAnyH_take (i := 14) (oi := (Go.Oper.mk (some 27) (Go.Op.call (Go.Call.mk (Go.Callee.builtin Go.Builtin.len) #[Go.Operand.tmp 26] #[50])) 3 _ #[Go.Edge.mk 13 Go.Ground.data] none)) (v := ?_) rfl (by kernel_rfl) (by kernel_rfl) (by kernel_rfl) (fun _ _ _ h => h) (Or.inl ⟨by rfl, ?_⟩) hHeld ?_
                rotate_left
                · intro w hSw; (try dsimp only at hSw); go_simp; (try with_reducible rfl)
                simp only [Act.put, List.setIfInBounds_toArray, List.set_cons_zero, List.set_cons_succ]
                refine wpAnyH_ready (rs := [4]) (by kernel_rfl) (by simp) ?_
                refine (AllReadyH.cons (o := (Go.Oper.mk (some 17) (Go.Op.load 50 (Go.Operand.tmp 16)) 50 _ #[Go.Edge.mk 3 Go.Ground.data] none)) rfl (fun K hK => ?_) AllReadyH.nil)
                · skip
                  go_simp
                  refine hK.out _ _ ?_ (fun hHeld => ?_)
                  · first | exact ⟨k0, k1, k2, k3⟩ | exact HK.out _ (Below.refl _ _).drew | exact HK.out _ (HD.out _)
                  clear hK K
                  (try simp only [Act.put, List.setIfInBounds_toArray, List.set_cons_zero, List.set_cons_succ])
                  refine wpAnyH_take (i := 15) (oi := (Go.Oper.mk (some 28) (Go.Op.slice 50 (Go.Operand.tmp 17) none (some (Go.Operand.tmp 22)) (some (Go.Operand.tmp 27))) 50 _ #[Go.Edge.mk 4 Go.Ground.data, Go.Edge.mk 9 Go.Ground.data, Go.Edge.mk 14 Go.Ground.data] none)) (v := ?_) rfl (by kernel_rfl) (by kernel_rfl) (by kernel_rfl) (fun _ _ _ h => h) (Or.inl ⟨by rfl, ?_⟩) hHeld ?_
                  rotate_left
                  · intro w hSw; (try dsimp only at hSw); go_simp; (try with_reducible rfl)
                  simp only [Act.put, List.setIfInBounds_toArray, List.set_cons_zero, List.set_cons_succ]
                  refine wpAnyH_ready (rs := [18]) (by kernel_rfl) (by simp) ?_
                  refine (AllReadyH.cons (o := (Go.Oper.mk (some 31) (Go.Op.call (Go.Call.mk (Go.Callee.builtin Go.Builtin.append) #[Go.Operand.tmp 28, Go.Operand.tmp 30] #[50, 50])) 50 _ #[Go.Edge.mk 15 Go.Ground.data, Go.Edge.mk 17 Go.Ground.data] none)) rfl (fun K hK => ?_) AllReadyH.nil)
                  · skip
                    (refine step_append_grows rfl _ _ _ rfl 98 i0 _ 4 48 Try.underlying50 hi hz0 hz1 hz2 rfl (by omega) _ _ _ (S.opn.flatMap rcCells) rfl HO.out.2.2.1 HO.out.2.1 (HO.out.1 _ (HD.out _)) ⟨wn.heap.size, 0, none⟩ 1 1 [x0, x1, x2, x3] rfl rfl (World.news_of_block (cs := #[x0, x1, x2, x3]) (t := 98) (fr := (0, 0)) (heap_alloc_new wn _)) (by simp [o0, o1, o2, o3]) (by omega) hb1 hb2 ?_); intro v5 w5 hown5 hgrow5; have HG := grown_open hown5 hgrow5 (HD.out _) HO.out.2.2.2 hxl hblt HC3.out; obtain ⟨a5, n5, q5, rfl⟩ := HG.1; obtain ⟨HG1, c5, f5⟩ := HG.2; replace HG := Lib.hid HG1; clear HG1 hown5 hgrow5
                    refine hK.out _ _ ?_ (fun hHeld => ?_)
                    · exact HK.out _ HG.out.2
                    clear hK K
                    (try simp only [Act.put, List.setIfInBounds_toArray, List.set_cons_zero, List.set_cons_succ])
                    refine wpAnyH_take (i := 19) (oi := (Go.Oper.mk (some 32) (Go.Op.nilCheck (Go.Operand.tmp 13)) 0 _ #[Go.Edge.mk 0 Go.Ground.data, Go.Edge.mk 0 Go.Ground.phase, Go.Edge.mk 1 Go.Ground.phase, Go.Edge.mk 2 Go.Ground.phase, Go.Edge.mk 3 Go.Ground.phase, Go.Edge.mk 4 Go.Ground.phase, Go.Edge.mk 5 Go.Ground.phase, Go.Edge.mk 6 Go.Ground.phase, Go.Edge.mk 7 Go.Ground.phase, Go.Edge.mk 8 Go.Ground.phase, Go.Edge.mk 9 Go.Ground.phase, Go.Edge.mk 10 Go.Ground.phase, Go.Edge.mk 11 Go.Ground.phase, Go.Edge.mk 12 Go.Ground.phase, Go.Edge.mk 13 Go.Ground.phase, Go.Edge.mk 14 Go.Ground.phase, Go.Edge.mk 15 Go.Ground.phase, Go.Edge.mk 16 Go.Ground.phase, Go.Edge.mk 17 Go.Ground.phase, Go.Edge.mk 18 Go.Ground.phase] none)) (v := ?_) rfl (by kernel_rfl) (by kernel_rfl) (by kernel_rfl) (fun _ _ _ h => h) (Or.inl ⟨by rfl, ?_⟩) hHeld ?_
                    rotate_left
                    · intro w hSw; (try dsimp only at hSw); go_simp; (try with_reducible rfl)
                    simp only [Act.put, List.setIfInBounds_toArray, List.set_cons_zero, List.set_cons_succ]
                    refine wpAnyH_take (i := 20) (oi := (Go.Oper.mk (some 33) (Go.Op.fieldAddr 52 (Go.Operand.tmp 32) 3) 0 _ #[Go.Edge.mk 19 Go.Ground.data, Go.Edge.mk 0 Go.Ground.phase, Go.Edge.mk 1 Go.Ground.phase, Go.Edge.mk 2 Go.Ground.phase, Go.Edge.mk 3 Go.Ground.phase, Go.Edge.mk 4 Go.Ground.phase, Go.Edge.mk 5 Go.Ground.phase, Go.Edge.mk 6 Go.Ground.phase, Go.Edge.mk 7 Go.Ground.phase, Go.Edge.mk 8 Go.Ground.phase, Go.Edge.mk 9 Go.Ground.phase, Go.Edge.mk 10 Go.Ground.phase, Go.Edge.mk 11 Go.Ground.phase, Go.Edge.mk 12 Go.Ground.phase, Go.Edge.mk 13 Go.Ground.phase, Go.Edge.mk 14 Go.Ground.phase, Go.Edge.mk 15 Go.Ground.phase, Go.Edge.mk 16 Go.Ground.phase, Go.Edge.mk 17 Go.Ground.phase, Go.Edge.mk 18 Go.Ground.phase] none)) (v := ?_) rfl (by kernel_rfl) (by kernel_rfl) (by kernel_rfl) (fun _ _ _ h => h) (Or.inl ⟨by rfl, ?_⟩) hHeld ?_
                    rotate_left
                    · intro w hSw; (try dsimp only at hSw); go_simp; (try with_reducible rfl)
                    simp only [Act.put, List.setIfInBounds_toArray, List.set_cons_zero, List.set_cons_succ]
                    refine wpAnyH_ready (rs := [21]) (by kernel_rfl) (by simp) ?_
                    refine (AllReadyH.cons (o := (Go.Oper.mk none (Go.Op.store 50 (Go.Operand.tmp 33) (Go.Operand.tmp 31)) 0 _ #[Go.Edge.mk 20 Go.Ground.data, Go.Edge.mk 18 Go.Ground.data, Go.Edge.mk 18 Go.Ground.chain, Go.Edge.mk 0 Go.Ground.phase, Go.Edge.mk 1 Go.Ground.phase, Go.Edge.mk 2 Go.Ground.phase, Go.Edge.mk 3 Go.Ground.phase, Go.Edge.mk 4 Go.Ground.phase, Go.Edge.mk 5 Go.Ground.phase, Go.Edge.mk 6 Go.Ground.phase, Go.Edge.mk 7 Go.Ground.phase, Go.Edge.mk 8 Go.Ground.phase, Go.Edge.mk 9 Go.Ground.phase, Go.Edge.mk 10 Go.Ground.phase, Go.Edge.mk 11 Go.Ground.phase, Go.Edge.mk 12 Go.Ground.phase, Go.Edge.mk 13 Go.Ground.phase, Go.Edge.mk 14 Go.Ground.phase, Go.Edge.mk 15 Go.Ground.phase, Go.Edge.mk 16 Go.Ground.phase, Go.Edge.mk 17 Go.Ground.phase, Go.Edge.mk 18 Go.Ground.phase] none)) rfl (fun K hK => ?_) AllReadyH.nil)
                    · skip
                      go_simp
                      refine hK.out _ _ ?_ (fun hHeld => ?_)
                      · exact HY.out _ _ (HK.out _ HG.out.2)
                      clear hK K
                      (try simp only [Act.put, List.setIfInBounds_toArray, List.set_cons_zero, List.set_cons_succ])
                      refine wpAnyH_done (by kernel_rfl) ?_ _
                      go_wp2
                      go_end0
                      have P := HN.out.1.opned HG.out.1 HG.out.2
                      have hwr : Wr F w _ := ((HA.out.2.1.drewN 1).trans HN.out.2 (Grew.refl _ _)).trans P.2 (fun k hk => hk.imp id fun h => Nat.le_trans (Nat.le_of_lt hwz) h.1)
                      exact ⟨rfl, _, P.1.disk, fun k hk => by
                        rcases hk with (hk | hk) | hk
                        · exact .inl hk
                        · exact .inr (Nat.le_trans (Nat.le_of_lt hwz) hk.1)
                        · exact .inr (Nat.le_trans (Nat.le_of_lt HZ.out) hk.1), hwr⟩
          · skip
            go_simp
            refine hK.out _ _ ?_ (fun hHeld => ?_)
            · first | exact ⟨k0, k1, k2, k3⟩ | exact HK.out _ (Below.refl _ _).drew | exact HK.out _ (HD.out _)
            clear hK K
            (try simp only [Act.put, List.setIfInBounds_toArray, List.set_cons_zero, List.set_cons_succ])
            refine wpAnyH_take (i := 14) (oi := (Go.Oper.mk (some 27) (Go.Op.call (Go.Call.mk (Go.Callee.builtin Go.Builtin.len) #[Go.Operand.tmp 26] #[50])) 3 _ #[Go.Edge.mk 13 Go.Ground.data] none)) (v := ?_) rfl (by kernel_rfl) (by kernel_rfl) (by kernel_rfl) (fun _ _ _ h => h) (Or.inl ⟨by rfl, ?_⟩) hHeld ?_
            rotate_left
            · intro w hSw; (try dsimp only at hSw); go_simp; (try with_reducible rfl)
            simp only [Act.put, List.setIfInBounds_toArray, List.set_cons_zero, List.set_cons_succ]
            refine wpAnyH_ready (rs := [4, 8, 17]) (by kernel_rfl) (by simp) ?_
            refine (AllReadyH.cons (o := (Go.Oper.mk (some 17) (Go.Op.load 50 (Go.Operand.tmp 16)) 50 _ #[Go.Edge.mk 3 Go.Ground.data] none)) rfl (fun K hK => ?_) (AllReadyH.cons (o := (Go.Oper.mk (some 21) (Go.Op.load 50 (Go.Operand.tmp 20)) 50 _ #[Go.Edge.mk 7 Go.Ground.data] none)) rfl (fun K hK => ?_) (AllReadyH.cons (o := (Go.Oper.mk (some 30) (Go.Op.buildSlice 50 1 #[(0, Go.Operand.tmp 29)]) 50 _ #[Go.Edge.mk 16 Go.Ground.data] none)) rfl (fun K hK => ?_) AllReadyH.nil)))
            · skip
              go_simp
              refine hK.out _ _ ?_ (fun hHeld => ?_)
              · first | exact ⟨k0, k1, k2, k3⟩ | exact HK.out _ (Below.refl _ _).drew | exact HK.out _ (HD.out _)
              clear hK K
              (try simp only [Act.put, List.setIfInBounds_toArray, List.set_cons_zero, List.set_cons_succ])
              refine wpAnyH_ready (rs := [8, 17]) (by kernel_rfl) (by simp) ?_
              refine (AllReadyH.cons (o := (Go.Oper.mk (some 21) (Go.Op.load 50 (Go.Operand.tmp 20)) 50 _ #[Go.Edge.mk 7 Go.Ground.data] none)) rfl (fun K hK => ?_) (AllReadyH.cons (o := (Go.Oper.mk (some 30) (Go.Op.buildSlice 50 1 #[(0, Go.Operand.tmp 29)]) 50 _ #[Go.Edge.mk 16 Go.Ground.data] none)) rfl (fun K hK => ?_) AllReadyH.nil))
              · skip
                go_simp
                refine hK.out _ _ ?_ (fun hHeld => ?_)
                · first | exact ⟨k0, k1, k2, k3⟩ | exact HK.out _ (Below.refl _ _).drew | exact HK.out _ (HD.out _)
                clear hK K
                (try simp only [Act.put, List.setIfInBounds_toArray, List.set_cons_zero, List.set_cons_succ])
                refine wpAnyH_take (i := 9) (oi := (Go.Oper.mk (some 22) (Go.Op.call (Go.Call.mk (Go.Callee.builtin Go.Builtin.len) #[Go.Operand.tmp 21] #[50])) 3 _ #[Go.Edge.mk 8 Go.Ground.data] none)) (v := ?_) rfl (by kernel_rfl) (by kernel_rfl) (by kernel_rfl) (fun _ _ _ h => h) (Or.inl ⟨by rfl, ?_⟩) hHeld ?_
                rotate_left
                · intro w hSw; (try dsimp only at hSw); go_simp; (try with_reducible rfl)
                simp only [Act.put, List.setIfInBounds_toArray, List.set_cons_zero, List.set_cons_succ]
                refine wpAnyH_take (i := 15) (oi := (Go.Oper.mk (some 28) (Go.Op.slice 50 (Go.Operand.tmp 17) none (some (Go.Operand.tmp 22)) (some (Go.Operand.tmp 27))) 50 _ #[Go.Edge.mk 4 Go.Ground.data, Go.Edge.mk 9 Go.Ground.data, Go.Edge.mk 14 Go.Ground.data] none)) (v := ?_) rfl (by kernel_rfl) (by kernel_rfl) (by kernel_rfl) (fun _ _ _ h => h) (Or.inl ⟨by rfl, ?_⟩) hHeld ?_
                rotate_left
                · intro w hSw; (try dsimp only at hSw); go_simp; (try with_reducible rfl)
                simp only [Act.put, List.setIfInBounds_toArray, List.set_cons_zero, List.set_cons_succ]
                refine wpAnyH_ready (rs := [17]) (by kernel_rfl) (by simp) ?_
                refine (AllReadyH.cons (o := (Go.Oper.mk (some 30) (Go.Op.buildSlice 50 1 #[(0, Go.Operand.tmp 29)]) 50 _ #[Go.Edge.mk 16 Go.Ground.data] none)) rfl (fun K hK => ?_) AllReadyH.nil)
                · skip
                  go_simp
                  refine hK.out _ _ ?_ (fun hHeld => ?_)
                  · first | exact ⟨k0, k1, k2, k3⟩ | exact HK.out _ (Below.refl _ _).drew | exact HK.out _ (HD.out _)
                  clear hK K
                  (try simp only [Act.put, List.setIfInBounds_toArray, List.set_cons_zero, List.set_cons_succ])
                  refine wpAnyH_ready (rs := [18]) (by kernel_rfl) (by simp) ?_
                  refine (AllReadyH.cons (o := (Go.Oper.mk (some 31) (Go.Op.call (Go.Call.mk (Go.Callee.builtin Go.Builtin.append) #[Go.Operand.tmp 28, Go.Operand.tmp 30] #[50, 50])) 50 _ #[Go.Edge.mk 15 Go.Ground.data, Go.Edge.mk 17 Go.Ground.data] none)) rfl (fun K hK => ?_) AllReadyH.nil)
                  · skip
                    (refine step_append_grows rfl _ _ _ rfl 98 i0 _ 4 48 Try.underlying50 hi hz0 hz1 hz2 rfl (by omega) _ _ _ (S.opn.flatMap rcCells) rfl HO.out.2.2.1 HO.out.2.1 (HO.out.1 _ (HD.out _)) ⟨wn.heap.size, 0, none⟩ 1 1 [x0, x1, x2, x3] rfl rfl (World.news_of_block (cs := #[x0, x1, x2, x3]) (t := 98) (fr := (0, 0)) (heap_alloc_new wn _)) (by simp [o0, o1, o2, o3]) (by omega) hb1 hb2 ?_); intro v5 w5 hown5 hgrow5; have HG := grown_open hown5 hgrow5 (HD.out _) HO.out.2.2.2 hxl hblt HC3.out; obtain ⟨a5, n5, q5, rfl⟩ := HG.1; obtain ⟨HG1, c5, f5⟩ := HG.2; replace HG := Lib.hid HG1; clear HG1 hown5 hgrow5
                    refine hK.out _ _ ?_ (fun hHeld => ?_)
                    · exact HK.out _ HG.out.2
                    clear hK K
                    (try simp only [Act.put, List.setIfInBounds_toArray, List.set_cons_zero, List.set_cons_succ])
                    refine wpAnyH_take (i := 19) (oi := (Go.Oper.mk (some 32) (Go.Op.nilCheck (Go.Operand.tmp 13)) 0 _ #[Go.Edge.mk 0 Go.Ground.data, Go.Edge.mk 0 Go.Ground.phase, Go.Edge.mk 1 Go.Ground.phase, Go.Edge.mk 2 Go.Ground.phase, Go.Edge.mk 3 Go.Ground.phase, Go.Edge.mk 4 Go.Ground.phase, Go.Edge.mk 5 Go.Ground.phase, Go.Edge.mk 6 Go.Ground.phase, Go.Edge.mk 7 Go.Ground.phase, Go.Edge.mk 8 Go.Ground.phase, Go.Edge.mk 9 Go.Ground.phase, Go.Edge.mk 10 Go.Ground.phase, Go.Edge.mk 11 Go.Ground.phase, Go.Edge.mk 12 Go.Ground.phase, Go.Edge.mk 13 Go.Ground.phase, Go.Edge.mk 14 Go.Ground.phase, Go.Edge.mk 15 Go.Ground.phase, Go.Edge.mk 16 Go.Ground.phase, Go.Edge.mk 17 Go.Ground.phase, Go.Edge.mk 18 Go.Ground.phase] none)) (v := ?_) rfl (by kernel_rfl) (by kernel_rfl) (by kernel_rfl) (fun _ _ _ h => h) (Or.inl ⟨by rfl, ?_⟩) hHeld ?_
                    rotate_left
                    · intro w hSw; (try dsimp only at hSw); go_simp; (try with_reducible rfl)
                    simp only [Act.put, List.setIfInBounds_toArray, List.set_cons_zero, List.set_cons_succ]
                    refine wpAnyH_take (i := 20) (oi := (Go.Oper.mk (some 33) (Go.Op.fieldAddr 52 (Go.Operand.tmp 32) 3) 0 _ #[Go.Edge.mk 19 Go.Ground.data, Go.Edge.mk 0 Go.Ground.phase, Go.Edge.mk 1 Go.Ground.phase, Go.Edge.mk 2 Go.Ground.phase, Go.Edge.mk 3 Go.Ground.phase, Go.Edge.mk 4 Go.Ground.phase, Go.Edge.mk 5 Go.Ground.phase, Go.Edge.mk 6 Go.Ground.phase, Go.Edge.mk 7 Go.Ground.phase, Go.Edge.mk 8 Go.Ground.phase, Go.Edge.mk 9 Go.Ground.phase, Go.Edge.mk 10 Go.Ground.phase, Go.Edge.mk 11 Go.Ground.phase, Go.Edge.mk 12 Go.Ground.phase, Go.Edge.mk 13 Go.Ground.phase, Go.Edge.mk 14 Go.Ground.phase, Go.Edge.mk 15 Go.Ground.phase, Go.Edge.mk 16 Go.Ground.phase, Go.Edge.mk 17 Go.Ground.phase, Go.Edge.mk 18 Go.Ground.phase] none)) (v := ?_) rfl (by kernel_rfl) (by kernel_rfl) (by kernel_rfl) (fun _ _ _ h => h) (Or.inl ⟨by rfl, ?_⟩) hHeld ?_
                    rotate_left
                    · intro w hSw; (try dsimp only at hSw); go_simp; (try with_reducible rfl)
                    simp only [Act.put, List.setIfInBounds_toArray, List.set_cons_zero, List.set_cons_succ]
                    refine wpAnyH_ready (rs := [21]) (by kernel_rfl) (by simp) ?_
                    refine (AllReadyH.cons (o := (Go.Oper.mk none (Go.Op.store 50 (Go.Operand.tmp 33) (Go.Operand.tmp 31)) 0 _ #[Go.Edge.mk 20 Go.Ground.data, Go.Edge.mk 18 Go.Ground.data, Go.Edge.mk 18 Go.Ground.chain, Go.Edge.mk 0 Go.Ground.phase, Go.Edge.mk 1 Go.Ground.phase, Go.Edge.mk 2 Go.Ground.phase, Go.Edge.mk 3 Go.Ground.phase, Go.Edge.mk 4 Go.Ground.phase, Go.Edge.mk 5 Go.Ground.phase, Go.Edge.mk 6 Go.Ground.phase, Go.Edge.mk 7 Go.Ground.phase, Go.Edge.mk 8 Go.Ground.phase, Go.Edge.mk 9 Go.Ground.phase, Go.Edge.mk 10 Go.Ground.phase, Go.Edge.mk 11 Go.Ground.phase, Go.Edge.mk 12 Go.Ground.phase, Go.Edge.mk 13 Go.Ground.phase, Go.Edge.mk 14 Go.Ground.phase, Go.Edge.mk 15 Go.Ground.phase, Go.Edge.mk 16 Go.Ground.phase, Go.Edge.mk 17 Go.Ground.phase, Go.Edge.mk 18 Go.Ground.phase] none)) rfl (fun K hK => ?_) AllReadyH.nil)
                    · skip
                      go_simp
                      refine hK.out _ _ ?_ (fun hHeld => ?_)
                      · exact HY.out _ _ (HK.out _ HG.out.2)
                      clear hK K
                      (try simp only [Act.put, List.setIfInBounds_toArray, List.set_cons_zero, List.set_cons_succ])
                      refine wpAnyH_done (by kernel_rfl) ?_ _
                      go_wp2
                      go_end0
                      have P := HN.out.1.opned HG.out.1 HG.out.2
                      have hwr : Wr F w _ := ((HA.out.2.1.drewN 1).trans HN.out.2 (Grew.refl _ _)).trans P.2 (fun k hk => hk.imp id fun h => Nat.le_trans (Nat.le_of_lt hwz) h.1)
                      exact ⟨rfl, _, P.1.disk, fun k hk => by
                        rcases hk with (hk | hk) | hk
                        · exact .inl hk
                        · exact .inr (Nat.le_trans (Nat.le_of_lt hwz) hk.1)
                        · exact .inr (Nat.le_trans (Nat.le_of_lt HZ.out) hk.1), hwr⟩
              · skip
                go_simp
                refine hK.out _ _ ?_ (fun hHeld => ?_)
                · first | exact ⟨k0, k1, k2, k3⟩ | exact HK.out _ (Below.refl _ _).drew | exact HK.out _ (HD.out _)
                clear hK K
                (try simp only [Act.put, List.setIfInBounds_toArray, List.set_cons_zero, List.set_cons_succ])
                refine wpAnyH_ready (rs := [8]) (by kernel_rfl) (by simp) ?_
                refine (AllReadyH.cons (o := (Go.Oper.mk (some 21) (Go.Op.load 50 (Go.Operand.tmp 20)) 50 _ #[Go.Edge.mk 7 Go.Ground.data] none)) rfl (fun K hK => ?_) AllReadyH.nil)
                · skip
                  go_simp
                  refine hK.out _ _ ?_ (fun hHeld => ?_)
                  · first | exact ⟨k0, k1, k2, k3⟩ | exact HK.out _ (Below.refl _ _).drew | exact HK.out _ (HD.out _)
                  clear hK K
                  (try simp only [Act.put, List.setIfInBounds_toArray, List.set_cons_zero, List.set_cons_succ])
                  refine wpAnyH_take (i := 9) (oi := (Go.Oper.mk (some 22) (Go.Op.call (Go.Call.mk (Go.Callee.builtin Go.Builtin.len) #[Go.Operand.tmp 21] #[50])) 3 _ #[Go.Edge.mk 8 Go.Ground.data] none)) (v := ?_) rfl (by kernel_rfl) (by kernel_rfl) (by kernel_rfl) (fun _ _ _ h => h) (Or.inl ⟨by rfl, ?_⟩) hHeld ?_
                  rotate_left
                  · intro w hSw; (try dsimp only at hSw); go_simp; (try with_reducible rfl)
                  simp only [Act.put, List.setIfInBounds_toArray, List.set_cons_zero, List.set_cons_succ]
                  refine wpAnyH_take (i := 15) (oi := (Go.Oper.mk (some 28) (Go.Op.slice 50 (Go.Operand.tmp 17) none (some (Go.Operand.tmp 22)) (some (Go.Operand.tmp 27))) 50 _ #[Go.Edge.mk 4 Go.Ground.data, Go.Edge.mk 9 Go.Ground.data, Go.Edge.mk 14 Go.Ground.data] none)) (v := ?_) rfl (by kernel_rfl) (by kernel_rfl) (by kernel_rfl) (fun _ _ _ h => h) (Or.inl ⟨by rfl, ?_⟩) hHeld ?_
                  rotate_left
                  · intro w hSw; (try dsimp only at hSw); go_simp; (try with_reducible rfl)
                  simp only [Act.put, List.setIfInBounds_toArray, List.set_cons_zero, List.set_cons_succ]
                  refine wpAnyH_ready (rs := [18]) (by kernel_rfl) (by simp) ?_
                  refine (AllReadyH.cons (o := (Go.Oper.mk (some 31) (Go.Op.call (Go.Call.mk (Go.Callee.builtin Go.Builtin.append) #[Go.Operand.tmp 28, Go.Operand.tmp 30] #[50, 50])) 50 _ #[Go.Edge.mk 15 Go.Ground.data, Go.Edge.mk 17 Go.Ground.data] none)) rfl (fun K hK => ?_) AllReadyH.nil)
                  · skip
                    (refine step_append_grows rfl _ _ _ rfl 98 i0 _ 4 48 Try.underlying50 hi hz0 hz1 hz2 rfl (by omega) _ _ _ (S.opn.flatMap rcCells) rfl HO.out.2.2.1 HO.out.2.1 (HO.out.1 _ (HD.out _)) ⟨wn.heap.size, 0, none⟩ 1 1 [x0, x1, x2, x3] rfl rfl (World.news_of_block (cs := #[x0, x1, x2, x3]) (t := 98) (fr := (0, 0)) (heap_alloc_new wn _)) (by simp [o0, o1, o2, o3]) (by omega) hb1 hb2 ?_); intro v5 w5 hown5 hgrow5; have HG := grown_open hown5 hgrow5 (HD.out _) HO.out.2.2.2 hxl hblt HC3.out; obtain ⟨a5, n5, q5, rfl⟩ := HG.1; obtain ⟨HG1, c5, f5⟩ := HG.2; replace HG := Lib.hid HG1; clear HG1 hown5 hgrow5
                    refine hK.out _ _ ?_ (fun hHeld => ?_)
                    · exact HK.out _ HG.out.2
                    clear hK K
                    (try simp only [Act.put, List.setIfInBounds_toArray, List.set_cons_zero, List.set_cons_succ])
                    refine wpAnyH_take (i := 19) (oi := (Go.Oper.mk (some 32) (Go.Op.nilCheck (Go.Operand.tmp 13)) 0 _ #[Go.Edge.mk 0 Go.Ground.data, Go.Edge.mk 0 Go.Ground.phase, Go.Edge.mk 1 Go.Ground.phase, Go.Edge.mk 2 Go.Ground.phase, Go.Edge.mk 3 Go.Ground.phase, Go.Edge.mk 4 Go.Ground.phase, Go.Edge.mk 5 Go.Ground.phase, Go.Edge.mk 6 Go.Ground.phase, Go.Edge.mk 7 Go.Ground.phase, Go.Edge.mk 8 Go.Ground.phase, Go.Edge.mk 9 Go.Ground.phase, Go.Edge.mk 10 Go.Ground.phase, Go.Edge.mk 11 Go.Ground.phase, Go.Edge.mk 12 Go.Ground.phase, Go.Edge.mk 13 Go.Ground.phase, Go.Edge.mk 14 Go.Ground.phase, Go.Edge.mk 15 Go.Ground.phase, Go.Edge.mk 16 Go.Ground.phase, Go.Edge.mk 17 Go.Ground.phase, Go.Edge.mk 18 Go.Ground.phase] none)) (v := ?_) rfl (by kernel_rfl) (by kernel_rfl) (by kernel_rfl) (fun _ _ _ h => h) (Or.inl ⟨by rfl, ?_⟩) hHeld ?_
                    rotate_left
                    · intro w hSw; (try dsimp only at hSw); go_simp; (try with_reducible rfl)
                    simp only [Act.put, List.setIfInBounds_toArray, List.set_cons_zero, List.set_cons_succ]
                    refine wpAnyH_take (i := 20) (oi := (Go.Oper.mk (some 33) (Go.Op.fieldAddr 52 (Go.Operand.tmp 32) 3) 0 _ #[Go.Edge.mk 19 Go.Ground.data, Go.Edge.mk 0 Go.Ground.phase, Go.Edge.mk 1 Go.Ground.phase, Go.Edge.mk 2 Go.Ground.phase, Go.Edge.mk 3 Go.Ground.phase, Go.Edge.mk 4 Go.Ground.phase, Go.Edge.mk 5 Go.Ground.phase, Go.Edge.mk 6 Go.Ground.phase, Go.Edge.mk 7 Go.Ground.phase, Go.Edge.mk 8 Go.Ground.phase, Go.Edge.mk 9 Go.Ground.phase, Go.Edge.mk 10 Go.Ground.phase, Go.Edge.mk 11 Go.Ground.phase, Go.Edge.mk 12 Go.Ground.phase, Go.Edge.mk 13 Go.Ground.phase, Go.Edge.mk 14 Go.Ground.phase, Go.Edge.mk 15 Go.Ground.phase, Go.Edge.mk 16 Go.Ground.phase, Go.Edge.mk 17 Go.Ground.phase, Go.Edge.mk 18 Go.Ground.phase] none)) (v := ?_) rfl (by kernel_rfl) (by kernel_rfl) (by kernel_rfl) (fun _ _ _ h => h) (Or.inl ⟨by rfl, ?_⟩) hHeld ?_
                    rotate_left
                    · intro w hSw; (try dsimp only at hSw); go_simp; (try with_reducible rfl)
                    simp only [Act.put, List.setIfInBounds_toArray, List.set_cons_zero, List.set_cons_succ]
                    refine wpAnyH_ready (rs := [21]) (by kernel_rfl) (by simp) ?_
                    refine (AllReadyH.cons (o := (Go.Oper.mk none (Go.Op.store 50 (Go.Operand.tmp 33) (Go.Operand.tmp 31)) 0 _ #[Go.Edge.mk 20 Go.Ground.data, Go.Edge.mk 18 Go.Ground.data, Go.Edge.mk 18 Go.Ground.chain, Go.Edge.mk 0 Go.Ground.phase, Go.Edge.mk 1 Go.Ground.phase, Go.Edge.mk 2 Go.Ground.phase, Go.Edge.mk 3 Go.Ground.phase, Go.Edge.mk 4 Go.Ground.phase, Go.Edge.mk 5 Go.Ground.phase, Go.Edge.mk 6 Go.Ground.phase, Go.Edge.mk 7 Go.Ground.phase, Go.Edge.mk 8 Go.Ground.phase, Go.Edge.mk 9 Go.Ground.phase, Go.Edge.mk 10 Go.Ground.phase, Go.Edge.mk 11 Go.Ground.phase, Go.Edge.mk 12 Go.Ground.phase, Go.Edge.mk 13 Go.Ground.phase, Go.Edge.mk 14 Go.Ground.phase, Go.Edge.mk 15 Go.Ground.phase, Go.Edge.mk 16 Go.Ground.phase, Go.Edge.mk 17 Go.Ground.phase, Go.Edge.mk 18 Go.Ground.phase] none)) rfl (fun K hK => ?_) AllReadyH.nil)
                    · skip
                      go_simp
                      refine hK.out _ _ ?_ (fun hHeld => ?_)
                      · exact HY.out _ _ (HK.out _ HG.out.2)
                      clear hK K
                      (try simp only [Act.put, List.setIfInBounds_toArray, List.set_cons_zero, List.set_cons_succ])
                      refine wpAnyH_done (by kernel_rfl) ?_ _
                      go_wp2
                      go_end0
                      have P := HN.out.1.opned HG.out.1 HG.out.2
                      have hwr : Wr F w _ := ((HA.out.2.1.drewN 1).trans HN.out.2 (Grew.refl _ _)).trans P.2 (fun k hk => hk.imp id fun h => Nat.le_trans (Nat.le_of_lt hwz) h.1)
                      exact ⟨rfl, _, P.1.disk, fun k hk => by
                        rcases hk with (hk | hk) | hk
                        · exact .inl hk
                        · exact .inr (Nat.le_trans (Nat.le_of_lt hwz) hk.1)
                        · exact .inr (Nat.le_trans (Nat.le_of_lt HZ.out) hk.1), hwr⟩
            · skip
              go_simp
              refine hK.out _ _ ?_ (fun hHeld => ?_)
              · first | exact ⟨k0, k1, k2, k3⟩ | exact HK.out _ (Below.refl _ _).drew | exact HK.out _ (HD.out _)
              clear hK K
              (try simp only [Act.put, List.setIfInBounds_toArray, List.set_cons_zero, List.set_cons_succ])
              refine wpAnyH_take (i := 9) (oi := (Go.Oper.mk (some 22) (Go.Op.call (Go.Call.mk (Go.Callee.builtin Go.Builtin.len) #[Go.Operand.tmp 21] #[50])) 3 _ #[Go.Edge.mk 8 Go.Ground.data] none)) (v := ?_) rfl (by kernel_rfl) (by kernel_rfl) (by kernel_rfl) (fun _ _ _ h => h) (Or.inl ⟨by rfl, ?_⟩) hHeld ?_
              rotate_left
              · intro w hSw; (try dsimp only at hSw); go_simp; (try with_reducible rfl)
              simp only [Act.put, List.setIfInBounds_toArray, List.set_cons_zero, List.set_cons_succ]
              refine wpAnyH_ready (rs := [4, 17]) (by kernel_rfl) (by simp) ?_
              refine (AllReadyH.cons (o := (Go.Oper.mk (some 17) (Go.Op.load 50 (Go.Operand.tmp 16)) 50 _ #[Go.Edge.mk 3 Go.Ground.data] none)) rfl (fun K hK => ?_) (AllReadyH.cons (o := (Go.Oper.mk (some 30) (Go.Op.buildSlice 50 1 #[(0, Go.Operand.tmp 29)]) 50 _ #[Go.Edge.mk 16 Go.Ground.data] none)) rfl (fun K hK => ?_) AllReadyH.nil))
              · skip
                go_simp
                refine hK.out _ _ ?_ (fun hHeld => ?_)
                · first | exact ⟨k0, k1, k2, k3⟩ | exact HK.out _ (Below.refl _ _).drew | exact HK.out _ (HD.out _)
                clear hK K
                (try simp only [Act.put, List.setIfInBounds_toArray, List.set_cons_zero, List.set_cons_succ])
                refine wpAnyH_take (i := 15) (oi := (Go.Oper.mk (some 28) (Go.Op.slice 50 (Go.Operand.tmp 17) none (some (Go.Operand.tmp 22)) (some (Go.Operand.tmp 27))) 50 _ #[Go.Edge.mk 4 Go.Ground.data, Go.Edge.mk 9 Go.Ground.data, Go.Edge.mk 14 Go.Ground.data] none)) (v := ?_) rfl (by kernel_rfl) (by kernel_rfl) (by kernel_rfl) (fun _ _ _ h => h) (Or.inl ⟨by rfl, ?_⟩) hHeld ?_
                rotate_left
                · intro w hSw; (try dsimp only at hSw); go_simp; (try with_reducible rfl)
                simp only [Act.put, List.setIfInBounds_toArray, List.set_cons_zero, List.set_cons_succ]
                refine wpAnyH_ready (rs := [17]) (by kernel_rfl) (by simp) ?_
                refine (AllReadyH.cons (o := (Go.Oper.mk (some 30) (Go.Op.buildSlice 50 1 #[(0, Go.Operand.tmp 29)]) 50 _ #[Go.Edge.mk 16 Go.Ground.data] none)) rfl (fun K hK => ?_) AllReadyH.nil)
                · skip
                  go_simp
                  refine hK.out _ _ ?_ (fun hHeld => ?_)
                  · first | exact ⟨k0, k1, k2, k3⟩ | exact HK.out _ (Below.refl _ _).drew | exact HK.out _ (HD.out _)
                  clear hK K
                  (try simp only [Act.put, List.setIfInBounds_toArray, List.set_cons_zero, List.set_cons_succ])
                  refine wpAnyH_ready (rs := [18]) (by kernel_rfl) (by simp) ?_
                  refine (AllReadyH.cons (o := (Go.Oper.mk (some 31) (Go.Op.call (Go.Call.mk (Go.Callee.builtin Go.Builtin.append) #[Go.Operand.tmp 28, Go.Operand.tmp 30] #[50, 50])) 50 _ #[Go.Edge.mk 15 Go.Ground.data, Go.Edge.mk 17 Go.Ground.data] none)) rfl (fun K hK => ?_) AllReadyH.nil)
                  · skip
                    (refine step_append_grows rfl _ _ _ rfl 98 i0 _ 4 48 Try.underlying50 hi hz0 hz1 hz2 rfl (by omega) _ _ _ (S.opn.flatMap rcCells) rfl HO.out.2.2.1 HO.out.2.1 (HO.out.1 _ (HD.out _)) ⟨wn.heap.size, 0, none⟩ 1 1 [x0, x1, x2, x3] rfl rfl (World.news_of_block (cs := #[x0, x1, x2, x3]) (t := 98) (fr := (0, 0)) (heap_alloc_new wn _)) (by simp [o0, o1, o2, o3]) (by omega) hb1 hb2 ?_); intro v5 w5 hown5 hgrow5; have HG := grown_open hown5 hgrow5 (HD.out _) HO.out.2.2.2 hxl hblt HC3.out; obtain ⟨a5, n5, q5, rfl⟩ := HG.1; obtain ⟨HG1, c5, f5⟩ := HG.2; replace HG := Lib.hid HG1; clear HG1 hown5 hgrow5
                    refine hK.out _ _ ?_ (fun hHeld => ?_)
                    · exact HK.out _ HG.out.2
                    clear hK K
                    (try simp only [Act.put, List.setIfInBounds_toArray, List.set_cons_zero, List.set_cons_succ])
                    refine wpAnyH_take (i := 19) (oi := (Go.Oper.mk (some 32) (Go.Op.nilCheck (Go.Operand.tmp 13)) 0 _ #[Go.Edge.mk 0 Go.Ground.data, Go.Edge.mk 0 Go.Ground.phase, Go.Edge.mk 1 Go.Ground.phase, Go.Edge.mk 2 Go.Ground.phase, Go.Edge.mk 3 Go.Ground.phase, Go.Edge.mk 4 Go.Ground.phase, Go.Edge.mk 5 Go.Ground.phase, Go.Edge.mk 6 Go.Ground.phase, Go.Edge.mk 7 Go.Ground.phase, Go.Edge.mk 8 Go.Ground.phase, Go.Edge.mk 9 Go.Ground.phase, Go.Edge.mk 10 Go.Ground.phase, Go.Edge.mk 11 Go.Ground.phase, Go.Edge.mk 12 Go.Ground.phase, Go.Edge.mk 13 Go.Ground.phase, Go.Edge.mk 14 Go.Ground.phase, Go.Edge.mk 15 Go.Ground.phase, Go.Edge.mk 16 Go.Ground.phase, Go.Edge.mk 17 Go.Ground.phase, Go.Edge.mk 18 Go.Ground.phase] none)) (v := ?_) rfl (by kernel_rfl) (by kernel_rfl) (by kernel_rfl) (fun _ _ _ h => h) (Or.inl ⟨by rfl, ?_⟩) hHeld ?_
                    rotate_left
                    · intro w hSw; (try dsimp only at hSw); go_simp; (try with_reducible rfl)
                    simp only [Act.put, List.setIfInBounds_toArray, List.set_cons_zero, List.set_cons_succ]
                    refine wpAnyH_take (i := 20) (oi := (Go.Oper.mk (some 33) (Go.Op.fieldAddr 52 (Go.Operand.tmp 32) 3) 0 _ #[Go.Edge.mk 19 Go.Ground.data, Go.Edge.mk 0 Go.Ground.phase, Go.Edge.mk 1 Go.Ground.phase, Go.Edge.mk 2 Go.Ground.phase, Go.Edge.mk 3 Go.Ground.phase, Go.Edge.mk 4 Go.Ground.phase, Go.Edge.mk 5 Go.Ground.phase, Go.Edge.mk 6 Go.Ground.phase, Go.Edge.mk 7 Go.Ground.phase, Go.Edge.mk 8 Go.Ground.phase, Go.Edge.mk 9 Go.Ground.phase, Go.Edge.mk 10 Go.Ground.phase, Go.Edge.mk 11 Go.Ground.phase, Go.Edge.mk 12 Go.Ground.phase, Go.Edge.mk 13 Go.Ground.phase, Go.Edge.mk 14 Go.Ground.phase, Go.Edge.mk 15 Go.Ground.phase, Go.Edge.mk 16 Go.Ground.phase, Go.Edge.mk 17 Go.Ground.phase, Go.Edge.mk 18 Go.Ground.phase] none)) (v := ?_) rfl (by kernel_rfl) (by kernel_rfl) (by kernel_rfl) (fun _ _ _ h => h) (Or.inl ⟨by rfl, ?_⟩) hHeld ?_
                    rotate_left
                    · intro w hSw; (try dsimp only at hSw); go_simp; (try with_reducible rfl)
                    simp only [Act.put, List.setIfInBounds_toArray, List.set_cons_zero, List.set_cons_succ]
                    refine wpAnyH_ready (rs := [21]) (by kernel_rfl) (by simp) ?_
                    refine (AllReadyH.cons (o := (Go.Oper.mk none (Go.Op.store 50 (Go.Operand.tmp 33) (Go.Operand.tmp 31)) 0 _ #[Go.Edge.mk 20 Go.Ground.data, Go.Edge.mk 18 Go.Ground.data, Go.Edge.mk 18 Go.Ground.chain, Go.Edge.mk 0 Go.Ground.phase, Go.Edge.mk 1 Go.Ground.phase, Go.Edge.mk 2 Go.Ground.phase, Go.Edge.mk 3 Go.Ground.phase, Go.Edge.mk 4 Go.Ground.phase, Go.Edge.mk 5 Go.Ground.phase, Go.Edge.mk 6 Go.Ground.phase, Go.Edge.mk 7 Go.Ground.phase, Go.Edge.mk 8 Go.Ground.phase, Go.Edge.mk 9 Go.Ground.phase, Go.Edge.mk 10 Go.Ground.phase, Go.Edge.mk 11 Go.Ground.phase, Go.Edge.mk 12 Go.Ground.phase, Go.Edge.mk 13 Go.Ground.phase, Go.Edge.mk 14 Go.Ground.phase, Go.Edge.mk 15 Go.Ground.phase, Go.Edge.mk 16 Go.Ground.phase, Go.Edge.mk 17 Go.Ground.phase, Go.Edge.mk 18 Go.Ground.phase] none)) rfl (fun K hK => ?_) AllReadyH.nil)
                    · skip
                      go_simp
                      refine hK.out _ _ ?_ (fun hHeld => ?_)
                      · exact HY.out _ _ (HK.out _ HG.out.2)
                      clear hK K
                      (try simp only [Act.put, List.setIfInBounds_toArray, List.set_cons_zero, List.set_cons_succ])
                      refine wpAnyH_done (by kernel_rfl) ?_ _
                      go_wp2
                      go_end0
                      have P := HN.out.1.opned HG.out.1 HG.out.2
                      have hwr : Wr F w _ := ((HA.out.2.1.drewN 1).trans HN.out.2 (Grew.refl _ _)).trans P.2 (fun k hk => hk.imp id fun h => Nat.le_trans (Nat.le_of_lt hwz) h.1)
                      exact ⟨rfl, _, P.1.disk, fun k hk => by
                        rcases hk with (hk | hk) | hk
                        · exact .inl hk
                        · exact .inr (Nat.le_trans (Nat.le_of_lt hwz) hk.1)
                        · exact .inr (Nat.le_trans (Nat.le_of_lt HZ.out) hk.1), hwr⟩
              · skip
                go_simp
                refine hK.out _ _ ?_ (fun hHeld => ?_)
                · first | exact ⟨k0, k1, k2, k3⟩ | exact HK.out _ (Below.refl _ _).drew | exact HK.out _ (HD.out _)
                clear hK K
                (try simp only [Act.put, List.setIfInBounds_toArray, List.set_cons_zero, List.set_cons_succ])
                refine wpAnyH_ready (rs := [4]) (by kernel_rfl) (by simp) ?_
                refine (AllReadyH.cons (o := (Go.Oper.mk (some 17) (Go.Op.load 50 (Go.Operand.tmp 16)) 50 _ #[Go.Edge.mk 3 Go.Ground.data] none)) rfl (fun K hK => ?_) AllReadyH.nil)
                · skip
                  go_simp
                  refine hK.out _ _ ?_ (fun hHeld => ?_)
                  · first | exact ⟨k0, k1, k2, k3⟩ | exact HK.out _ (Below.refl _ _).drew | exact HK.out _ (HD.out _)
                  clear hK K
                  (try simp only [Act.put, List.setIfInBounds_toArray, List.set_cons_zero, List.set_cons_succ])
                  refine wpAnyH_take (i := 15) (oi := (Go.Oper.mk (some 28) (Go.Op.slice 50 (Go.Operand.tmp 17) none (some (Go.Operand.tmp 22)) (some (Go.Operand.tmp 27))) 50 _ #[Go.Edge.mk 4 Go.Ground.data, Go.Edge.mk 9 Go.Ground.data, Go.Edge.mk 14 Go.Ground.data] none)) (v := ?_) rfl (by kernel_rfl) (by kernel_rfl) (by kernel_rfl) (fun _ _ _ h => h) (Or.inl ⟨by rfl, ?_⟩) hHeld ?_
                  rotate_left
                  · intro w hSw; (try dsimp only at hSw); go_simp; (try with_reducible rfl)
                  simp only [Act.put, List.setIfInBounds_toArray, List.set_cons_zero, List.set_cons_succ]
                  refine wpAnyH_ready (rs := [18]) (by kernel_rfl) (by simp) ?_
                  refine (AllReadyH.cons (o := (Go.Oper.mk (some 31) (Go.Op.call (Go.Call.mk (Go.Callee.builtin Go.Builtin.append) #[Go.Operand.tmp 28, Go.Operand.tmp 30] #[50, 50])) 50 _ #[Go.Edge.mk 15 Go.Ground.data, Go.Edge.mk 17 Go.Ground.data] none)) rfl (fun K hK => ?_) AllReadyH.nil)
                  · skip
                    (refine step_append_grows rfl _ _ _ rfl 98 i0 _ 4 48 Try.underlying50 hi hz0 hz1 hz2 rfl (by omega) _ _ _ (S.opn.flatMap rcCells) rfl HO.out.2.2.1 HO.out.2.1 (HO.out.1 _ (HD.out _)) ⟨wn.heap.size, 0, none⟩ 1 1 [x0, x1, x2, x3] rfl rfl (World.news_of_block (cs := #[x0, x1, x2, x3]) (t := 98) (fr := (0, 0)) (heap_alloc_new wn _)) (by simp [o0, o1, o2, o3]) (by omega) hb1 hb2 ?_); intro v5 w5 hown5 hgrow5; have HG := grown_open hown5 hgrow5 (HD.out _) HO.out.2.2.2 hxl hblt HC3.out; obtain ⟨a5, n5, q5, rfl⟩ := HG.1; obtain ⟨HG1, c5, f5⟩ := HG.2; replace HG := Lib.hid HG1; clear HG1 hown5 hgrow5
                    refine hK.out _ _ ?_ (fun hHeld => ?_)
                    · exact HK.out _ HG.out.2
                    clear hK K
                    (try simp only [Act.put, List.setIfInBounds_toArray, List.set_cons_zero, List.set_cons_succ])
                    refine wpAnyH_take (i := 19) (oi := (Go.Oper.mk (some 32) (Go.Op.nilCheck (Go.Operand.tmp 13)) 0 _ #[Go.Edge.mk 0 Go.Ground.data, Go.Edge.mk 0 Go.Ground.phase, Go.Edge.mk 1 Go.Ground.phase, Go.Edge.mk 2 Go.Ground.phase, Go.Edge.mk 3 Go.Ground.phase, Go.Edge.mk 4 Go.Ground.phase, Go.Edge.mk 5 Go.Ground.phase, Go.Edge.mk 6 Go.Ground.phase, Go.Edge.mk 7 Go.Ground.phase, Go.Edge.mk 8 Go.Ground.phase, Go.Edge.mk 9 Go.Ground.phase, Go.Edge.mk 10 Go.Ground.phase, Go.Edge.mk 11 Go.Ground.phase, Go.Edge.mk 12 Go.Ground.phase, Go.Edge.mk 13 Go.Ground.phase, Go.Edge.mk 14 Go.Ground.phase, Go.Edge.mk 15 Go.Ground.phase, Go.Edge.mk 16 Go.Ground.phase, Go.Edge.mk 17 Go.Ground.phase, Go.Edge.mk 18 Go.Ground.phase] none)) (v := ?_) rfl (by kernel_rfl) (by kernel_rfl) (by kernel_rfl) (fun _ _ _ h => h) (Or.inl ⟨by rfl, ?_⟩) hHeld ?_
                    rotate_left
                    · intro w hSw; (try dsimp only at hSw); go_simp; (try with_reducible rfl)
                    simp only [Act.put, List.setIfInBounds_toArray, List.set_cons_zero, List.set_cons_succ]
                    refine wpAnyH_take (i := 20) (oi := (Go.Oper.mk (some 33) (Go.Op.fieldAddr 52 (Go.Operand.tmp 32) 3) 0 _ #[Go.Edge.mk 19 Go.Ground.data, Go.Edge.mk 0 Go.Ground.phase, Go.Edge.mk 1 Go.Ground.phase, Go.Edge.mk 2 Go.Ground.phase, Go.Edge.mk 3 Go.Ground.phase, Go.Edge.mk 4 Go.Ground.phase, Go.Edge.mk 5 Go.Ground.phase, Go.Edge.mk 6 Go.Ground.phase, Go.Edge.mk 7 Go.Ground.phase, Go.Edge.mk 8 Go.Ground.phase, Go.Edge.mk 9 Go.Ground.phase, Go.Edge.mk 10 Go.Ground.phase, Go.Edge.mk 11 Go.Ground.phase, Go.Edge.mk 12 Go.Ground.phase, Go.Edge.mk 13 Go.Ground.phase, Go.Edge.mk 14 Go.Ground.phase, Go.Edge.mk 15 Go.Ground.phase, Go.Edge.mk 16 Go.Ground.phase, Go.Edge.mk 17 Go.Ground.phase, Go.Edge.mk 18 Go.Ground.phase] none)) (v := ?_) rfl (by kernel_rfl) (by kernel_rfl) (by kernel_rfl) (fun _ _ _ h => h) (Or.inl ⟨by rfl, ?_⟩) hHeld ?_
                    rotate_left
                    · intro w hSw; (try dsimp only at hSw); go_simp; (try with_reducible rfl)
                    simp only [Act.put, List.setIfInBounds_toArray, List.set_cons_zero, List.set_cons_succ]
                    refine wpAnyH_ready (rs := [21]) (by kernel_rfl) (by simp) ?_
                    refine (AllReadyH.cons (o := (Go.Oper.mk none (Go.Op.store 50 (Go.Operand.tmp 33) (Go.Operand.tmp 31)) 0 _ #[Go.Edge.mk 20 Go.Ground.data, Go.Edge.mk 18 Go.Ground.data, Go.Edge.mk 18 Go.Ground.chain, Go.Edge.mk 0 Go.Ground.phase, Go.Edge.mk 1 Go.Ground.phase, Go.Edge.mk 2 Go.Ground.phase, Go.Edge.mk 3 Go.Ground.phase, Go.Edge.mk 4 Go.Ground.phase, Go.Edge.mk 5 Go.Ground.phase, Go.Edge.mk 6 Go.Ground.phase, Go.Edge.mk 7 Go.Ground.phase, Go.Edge.mk 8 Go.Ground.phase, Go.Edge.mk 9 Go.Ground.phase, Go.Edge.mk 10 Go.Ground.phase, Go.Edge.mk 11 Go.Ground.phase, Go.Edge.mk 12 Go.Ground.phase, Go.Edge.mk 13 Go.Ground.phase, Go.Edge.mk 14 Go.Ground.phase, Go.Edge.mk 15 Go.Ground.phase, Go.Edge.mk 16 Go.Ground.phase, Go.Edge.mk 17 Go.Ground.phase, Go.Edge.mk 18 Go.Ground.phase] none)) rfl (fun K hK => ?_) AllReadyH.nil)
                    · skip
                      go_simp
                      refine hK.out _ _ ?_ (fun hHeld => ?_)
                      · exact HY.out _ _ (HK.out _ HG.out.2)
                      clear hK K
                      (try simp only [Act.put, List.setIfInBounds_toArray, List.set_cons_zero, List.set_cons_succ])
                      refine wpAnyH_done (by kernel_rfl) ?_ _
                      go_wp2
                      go_end0
                      have P := HN.out.1.opned HG.out.1 HG.out.2
                      have hwr : Wr F w _ := ((HA.out.2.1.drewN 1).trans HN.out.2 (Grew.refl _ _)).trans P.2 (fun k hk => hk.imp id fun h => Nat.le_trans (Nat.le_of_lt hwz) h.1)
                      exact ⟨rfl, _, P.1.disk, fun k hk => by
                        rcases hk with (hk | hk) | hk
                        · exact .inl hk
                        · exact .inr (Nat.le_trans (Nat.le_of_lt hwz) hk.1)
                        · exact .inr (Nat.le_trans (Nat.le_of_lt HZ.out) hk.1), hwr⟩
            · skip
              go_simp
              refine hK.out _ _ ?_ (fun hHeld => ?_)
              · first | exact ⟨k0, k1, k2, k3⟩ | exact HK.out _ (Below.refl _ _).drew | exact HK.out _ (HD.out _)
              clear hK K
              (try simp only [Act.put, List.setIfInBounds_toArray, List.set_cons_zero, List.set_cons_succ])
              refine wpAnyH_ready (rs := [4, 8]) (by kernel_rfl) (by simp) ?_
              refine (AllReadyH.cons (o := (Go.Oper.mk (some 17) (Go.Op.load 50 (Go.Operand.tmp 16)) 50 _ #[Go.Edge.mk 3 Go.Ground.data] none)) rfl (fun K hK => ?_) (AllReadyH.cons (o := (Go.Oper.mk (some 21) (Go.Op.load 50 (Go.Operand.tmp 20)) 50 _ #[Go.Edge.mk 7 Go.Ground.data] none)) rfl (fun K hK => ?_) AllReadyH.nil))
              · skip
                go_simp
                refine hK.out _ _ ?_ (fun hHeld => ?_)
                · first | exact ⟨k0, k1, k2, k3⟩ | exact HK.out _ (Below.refl _ _).drew | exact HK.out _ (HD.out _)
                clear hK K
                (try simp only [Act.put, List.setIfInBounds_toArray, List.set_cons_zero, List.set_cons_succ])
                refine wpAnyH_ready (rs := [8]) (by kernel_rfl) (by simp) ?_
                refine (AllReadyH.cons (o := (Go.Oper.mk (some 21) (Go.Op.load 50 (Go.Operand.tmp 20)) 50 _ #[Go.Edge.mk 7 Go.Ground.data] none)) rfl (fun K hK => ?_) AllReadyH.nil)
                · skip
                  go_simp
                  refine hK.out _ _ ?_ (fun hHeld => ?_)
                  · first | exact ⟨k0, k1, k2, k3⟩ | exact HK.out _ (Below.refl _ _).drew | exact HK.out _ (HD.out _)
                  clear hK K
                  (try simp only [Act.put, List.setIfInBounds_toArray, List.set_cons_zero, List.set_cons_succ])
                  refine wpAnyH_take (i := 9) (oi := (Go.Oper.mk (some 22) (Go.Op.call (Go.Call.mk (Go.Callee.builtin Go.Builtin.len) #[Go.Operand.tmp 21] #[50])) 3 _ #[Go.Edge.mk 8 Go.Ground.data] none)) (v := ?_) rfl (by kernel_rfl) (by kernel_rfl) (by kernel_rfl) (fun _ _ _ h => h) (Or.inl ⟨by rfl, ?_⟩) hHeld ?_
                  rotate_left
                  · intro w hSw; (try dsimp only at hSw); go_simp; (try with_reducible rfl)
                  simp only [Act.put, List.setIfInBounds_toArray, List.set_cons_zero, List.set_cons_succ]
                  refine wpAnyH_take (i := 15) (oi := (Go.Oper.mk (some 28) (Go.Op.slice 50 (Go.Operand.tmp 17) none (some (Go.Operand.tmp 22)) (some (Go.Operand.tmp 27))) 50 _ #[Go.Edge.mk 4 Go.Ground.data, Go.Edge.mk 9 Go.Ground.data, Go.Edge.mk 14 Go.Ground.data] none)) (v := ?_) rfl (by kernel_rfl) (by kernel_rfl) (by kernel_rfl) (fun _ _ _ h => h) (Or.inl ⟨by rfl, ?_⟩) hHeld ?_
                  rotate_left
                  · intro w hSw; (try dsimp only at hSw); go_simp; (try with_reducible rfl)
                  simp only [Act.put, List.setIfInBounds_toArray, List.set_cons_zero, List.set_cons_succ]
                  refine wpAnyH_ready (rs := [18]) (by kernel_rfl) (by simp) ?_
                  refine (AllReadyH.cons (o := (Go.Oper.mk (some 31) (Go.Op.call (Go.Call.mk (Go.Callee.builtin Go.Builtin.append) #[Go.Operand.tmp 28, Go.Operand.tmp 30] #[50, 50])) 50 _ #[Go.Edge.mk 15 Go.Ground.data, Go.Edge.mk 17 Go.Ground.data] none)) rfl (fun K hK => ?_) AllReadyH.nil)
                  · skip
                    (refine step_append_grows rfl _ _ _ rfl 98 i0 _ 4 48 Try.underlying50 hi hz0 hz1 hz2 rfl (by omega) _ _ _ (S.opn.flatMap rcCells) rfl HO.out.2.2.1 HO.out.2.1 (HO.out.1 _ (HD.out _)) ⟨wn.heap.size, 0, none⟩ 1 1 [x0, x1, x2, x3] rfl rfl (World.news_of_block (cs := #[x0, x1, x2, x3]) (t := 98) (fr := (0, 0)) (heap_alloc_new wn _)) (by simp [o0, o1, o2, o3]) (by omega) hb1 hb2 ?_); intro v5 w5 hown5 hgrow5; have HG := grown_open hown5 hgrow5 (HD.out _) HO.out.2.2.2 hxl hblt HC3.out; obtain ⟨a5, n5, q5, rfl⟩ := HG.1; obtain ⟨HG1, c5, f5⟩ := HG.2; replace HG := Lib.hid HG1; clear HG1 hown5 hgrow5
                    refine hK.out _ _ ?_ (fun hHeld => ?_)
                    · exact HK.out _ HG.out.2
                    clear hK K
                    (try simp only [Act.put, List.setIfInBounds_toArray, List.set_cons_zero, List.set_cons_succ])
                    refine wpAnyH_take (i := 19) (oi := (Go.Oper.mk (some 32) (Go.Op.nilCheck (Go.Operand.tmp 13)) 0 _ #[Go.Edge.mk 0 Go.Ground.data, Go.Edge.mk 0 Go.Ground.phase, Go.Edge.mk 1 Go.Ground.phase, Go.Edge.mk 2 Go.Ground.phase, Go.Edge.mk 3 Go.Ground.phase, Go.Edge.mk 4 Go.Ground.phase, Go.Edge.mk 5 Go.Ground.phase, Go.Edge.mk 6 Go.Ground.phase, Go.Edge.mk 7 Go.Ground.phase, Go.Edge.mk 8 Go.Ground.phase, Go.Edge.mk 9 Go.Ground.phase, Go.Edge.mk 10 Go.Ground.phase, Go.Edge.mk 11 Go.Ground.phase, Go.Edge.mk 12 Go.Ground.phase, Go.Edge.mk 13 Go.Ground.phase, Go.Edge.mk 14 Go.Ground.phase, Go.Edge.mk 15 Go.Ground.phase, Go.Edge.mk 16 Go.Ground.phase, Go.Edge.mk 17 Go.Ground.phase, Go.Edge.mk 18 Go.Ground.phase] none)) (v := ?_) rfl (by kernel_rfl) (by kernel_rfl) (by kernel_rfl) (fun _ _ _ h => h) (Or.inl ⟨by rfl, ?_⟩) hHeld ?_
                    rotate_left
                    · intro w hSw; (try dsimp only at hSw); go_simp; (try with_reducible rfl)
                    simp only [Act.put, List.setIfInBounds_toArray, List.set_cons_zero, List.set_cons_succ]
                    refine wpAnyH_take (i := 20) (oi := (Go.Oper.mk (some 33) (Go.Op.fieldAddr 52 (Go.Operand.tmp 32) 3) 0 _ #[Go.Edge.mk 19 Go.Ground.data, Go.Edge.mk 0 Go.Ground.phase, Go.Edge.mk 1 Go.Ground.phase, Go.Edge.mk 2 Go.Ground.phase, Go.Edge.mk 3 Go.Ground.phase, Go.Edge.mk 4 Go.Ground.phase, Go.Edge.mk 5 Go.Ground.phase, Go.Edge.mk 6 Go.Ground.phase, Go.Edge.mk 7 Go.Ground.phase, Go.Edge.mk 8 Go.Ground.phase, Go.Edge.mk 9 Go.Ground.phase, Go.Edge.mk 10 Go.Ground.phase, Go.Edge.mk 11 Go.Ground.phase, Go.Edge.mk 12 Go.Ground.phase, Go.Edge.mk 13 Go.Ground.phase, Go.Edge.mk 14 Go.Ground.phase, Go.Edge.mk 15 Go.Ground.phase, Go.Edge.mk 16 Go.Ground.phase, Go.Edge.mk 17 Go.Ground.phase, Go.Edge.mk 18 Go.Ground.phase] none)) (v := ?_) rfl (by kernel_rfl) (by kernel_rfl) (by kernel_rfl) (fun _ _ _ h => h) (Or.inl ⟨by rfl, ?_⟩) hHeld ?_
                    rotate_left
                    · intro w hSw; (try dsimp only at hSw); go_simp; (try with_reducible rfl)
                    simp only [Act.put, List.setIfInBounds_toArray, List.set_cons_zero, List.set_cons_succ]
                    refine wpAnyH_ready (rs := [21]) (by kernel_rfl) (by simp) ?_
                    refine (AllReadyH.cons (o := (Go.Oper.mk none (Go.Op.store 50 (Go.Operand.tmp 33) (Go.Operand.tmp 31)) 0 _ #[Go.Edge.mk 20 Go.Ground.data, Go.Edge.mk 18 Go.Ground.data, Go.Edge.mk 18 Go.Ground.chain, Go.Edge.mk 0 Go.Ground.phase, Go.Edge.mk 1 Go.Ground.phase, Go.Edge.mk 2 Go.Ground.phase, Go.Edge.mk 3 Go.Ground.phase, Go.Edge.mk 4 Go.Ground.phase, Go.Edge.mk 5 Go.Ground.phase, Go.Edge.mk 6 Go.Ground.phase, Go.Edge.mk 7 Go.Ground.phase, Go.Edge.mk 8 Go.Ground.phase, Go.Edge.mk 9 Go.Ground.phase, Go.Edge.mk 10 Go.Ground.phase, Go.Edge.mk 11 Go.Ground.phase, Go.Edge.mk 12 Go.Ground.phase, Go.Edge.mk 13 Go.Ground.phase, Go.Edge.mk 14 Go.Ground.phase, Go.Edge.mk 15 Go.Ground.phase, Go.Edge.mk 16 Go.Ground.phase, Go.Edge.mk 17 Go.Ground.phase, Go.Edge.mk 18 Go.Ground.phase] none)) rfl (fun K hK => ?_) AllReadyH.nil)
                    · skip
                      go_simp
                      refine hK.out _ _ ?_ (fun hHeld => ?_)
                      · exact HY.out _ _ (HK.out _ HG.out.2)
                      clear hK K
                      (try simp only [Act.put, List.setIfInBounds_toArray, List.set_cons_zero, List.set_cons_succ])
                      refine wpAnyH_done (by kernel_rfl) ?_ _
                      go_wp2
                      go_end0
                      have P := HN.out.1.opned HG.out.1 HG.out.2
                      have hwr : Wr F w _ := ((HA.out.2.1.drewN 1).trans HN.out.2 (Grew.refl _ _)).trans P.2 (fun k hk => hk.imp id fun h => Nat.le_trans (Nat.le_of_lt hwz) h.1)
                      exact ⟨rfl, _, P.1.disk, fun k hk => by
                        rcases hk with (hk | hk) | hk
                        · exact .inl hk
                        · exact .inr (Nat.le_trans (Nat.le_of_lt hwz) hk.1)
                        · exact .inr (Nat.le_trans (Nat.le_of_lt HZ.out) hk.1), hwr⟩
              · skip
                go_simp
                refine hK.out _ _ ?_ (fun hHeld => ?_)
                · first | exact ⟨k0, k1, k2, k3⟩ | exact HK.out _ (Below.refl _ _).drew | exact HK.out _ (HD.out _)
                clear hK K
                (try simp only [Act.put, List.setIfInBounds_toArray, List.set_cons_zero, List.set_cons_succ])
                refine wpAnyH_take (i := 9) (oi := (Go.Oper.mk (some 22) (Go.Op.call (Go.Call.mk (Go.Callee.builtin Go.Builtin.len) #[Go.Operand.tmp 21] #[50])) 3 _ #[Go.Edge.mk 8 Go.Ground.data] none)) (v := ?_) rfl (by kernel_rfl) (by kernel_rfl) (by kernel_rfl) (fun _ _ _ h => h) (Or.inl ⟨by rfl, ?_⟩) hHeld ?_
                rotate_left
                · intro w hSw; (try dsimp only at hSw); go_simp; (try with_reducible rfl)
                simp only [Act.put, List.setIfInBounds_toArray, List.set_cons_zero, List.set_cons_succ]
                refine wpAnyH_ready (rs := [4]) (by kernel_rfl) (by simp) ?_
                refine (AllReadyH.cons (o := (Go.Oper.mk (some 17) (Go.Op.load 50 (Go.Operand.tmp 16)) 50 _ #[Go.Edge.mk 3 Go.Ground.data] none)) rfl (fun K hK => ?_) AllReadyH.nil)
                · skip
                  go_simp
                  refine hK.out _ _ ?_ (fun hHeld => ?_)
                  · first | exact ⟨k0, k1, k2, k3⟩ | exact HK.out _ (Below.refl _ _).drew | exact HK.out _ (HD.out _)
                  clear hK K
                  (try simp only [Act.put, List.setIfInBounds_toArray, List.set_cons_zero, List.set_cons_succ])
                  refine wpAnyH_take (i := 15) (oi := (Go.Oper.mk (some 28) (Go.Op.slice 50 (Go.Operand.tmp 17) none (some (Go.Operand.tmp 22)) (some (Go.Operand.tmp 27))) 50 _ #[Go.Edge.mk 4 Go.Ground.data, Go.Edge.mk 9 Go.Ground.data, Go.Edge.mk 14 Go.Ground.data] none)) (v := ?_) rfl (by kernel_rfl) (by kernel_rfl) (by kernel_rfl) (fun _ _ _ h => h) (Or.inl ⟨by rfl, ?_⟩) hHeld ?_
                  rotate_left
                  · intro w hSw; (try dsimp only at hSw); go_simp; (try with_reducible rfl)
                  simp only [Act.put, List.setIfInBounds_toArray, List.set_cons_zero, List.set_cons_succ]
                  refine wpAnyH_ready (rs := [18]) (by kernel_rfl) (by simp) ?_
                  refine (AllReadyH.cons (o := (Go.Oper.mk (some 31) (Go.Op.call (Go.Call.mk (Go.Callee.builtin Go.Builtin.append) #[Go.Operand.tmp 28, Go.Operand.tmp 30] #[50, 50])) 50 _ #[Go.Edge.mk 15 Go.Ground.data, Go.Edge.mk 17 Go.Ground.data] none)) rfl (fun K hK => ?_) AllReadyH.nil)
                  · skip
                    (refine step_append_grows rfl _ _ _ rfl 98 i0 _ 4 48 Try.underlying50 hi hz0 hz1 hz2 rfl (by omega) _ _ _ (S.opn.flatMap rcCells) rfl HO.out.2.2.1 HO.out.2.1 (HO.out.1 _ (HD.out _)) ⟨wn.heap.size, 0, none⟩ 1 1 [x0, x1, x2, x3] rfl rfl (World.news_of_block (cs := #[x0, x1, x2, x3]) (t := 98) (fr := (0, 0)) (heap_alloc_new wn _)) (by simp [o0, o1, o2, o3]) (by omega) hb1 hb2 ?_); intro v5 w5 hown5 hgrow5; have HG := grown_open hown5 hgrow5 (HD.out _) HO.out.2.2.2 hxl hblt HC3.out; obtain ⟨a5, n5, q5, rfl⟩ := HG.1; obtain ⟨HG1, c5, f5⟩ := HG.2; replace HG := Lib.hid HG1; clear HG1 hown5 hgrow5
                    refine hK.out _ _ ?_ (fun hHeld => ?_)
                    · exact HK.out _ HG.out.2
                    clear hK K
                    (try simp only [Act.put, List.setIfInBounds_toArray, List.set_cons_zero, List.set_cons_succ])
                    refine wpAnyH_take (i := 19) (oi := (Go.Oper.mk (some 32) (Go.Op.nilCheck (Go.Operand.tmp 13)) 0 _ #[Go.Edge.mk 0 Go.Ground.data, Go.Edge.mk 0 Go.Ground.phase, Go.Edge.mk 1 Go.Ground.phase, Go.Edge.mk 2 Go.Ground.phase, Go.Edge.mk 3 Go.Ground.phase, Go.Edge.mk 4 Go.Ground.phase, Go.Edge.mk 5 Go.Ground.phase, Go.Edge.mk 6 Go.Ground.phase, Go.Edge.mk 7 Go.Ground.phase, Go.Edge.mk 8 Go.Ground.phase, Go.Edge.mk 9 Go.Ground.phase, Go.Edge.mk 10 Go.Ground.phase, Go.Edge.mk 11 Go.Ground.phase, Go.Edge.mk 12 Go.Ground.phase, Go.Edge.mk 13 Go.Ground.phase, Go.Edge.mk 14 Go.Ground.phase, Go.Edge.mk 15 Go.Ground.phase, Go.Edge.mk 16 Go.Ground.phase, Go.Edge.mk 17 Go.Ground.phase, Go.Edge.mk 18 Go.Ground.phase] none)) (v := ?_) rfl (by kernel_rfl) (by kernel_rfl) (by kernel_rfl) (fun _ _ _ h => h) (Or.inl ⟨by rfl, ?_⟩) hHeld ?_
                    rotate_left
                    · intro w hSw; (try dsimp only at hSw); go_simp; (try with_reducible rfl)
                    simp only [Act.put, List.setIfInBounds_toArray, List.set_cons_zero, List.set_cons_succ]
                    refine wpAnyH_take (i := 20) (oi := (Go.Oper.mk (some 33) (Go.Op.fieldAddr 52 (Go.Operand.tmp 32) 3) 0 _ #[Go.Edge.mk 19 Go.Ground.data, Go.Edge.mk 0 Go.Ground.phase, Go.Edge.mk 1 Go.Ground.phase, Go.Edge.mk 2 Go.Ground.phase, Go.Edge.mk 3 Go.Ground.phase, Go.Edge.mk 4 Go.Ground.phase, Go.Edge.mk 5 Go.Ground.phase, Go.Edge.mk 6 Go.Ground.phase, Go.Edge.mk 7 Go.Ground.phase, Go.Edge.mk 8 Go.Ground.phase, Go.Edge.mk 9 Go.Ground.phase, Go.Edge.mk 10 Go.Ground.phase, Go.Edge.mk 11 Go.Ground.phase, Go.Edge.mk 12 Go.Ground.phase, Go.Edge.mk 13 Go.Ground.phase, Go.Edge.mk 14 Go.Ground.phase, Go.Edge.mk 15 Go.Ground.phase, Go.Edge.mk 16 Go.Ground.phase, Go.Edge.mk 17 Go.Ground.phase, Go.Edge.mk 18 Go.Ground.phase] none)) (v := ?_) rfl (by kernel_rfl) (by kernel_rfl) (by kernel_rfl) (fun _ _ _ h => h) (Or.inl ⟨by rfl, ?_⟩) hHeld ?_
                    rotate_left
                    · intro w hSw; (try dsimp only at hSw); go_simp; (try with_reducible rfl)
                    simp only [Act.put, List.setIfInBounds_toArray, List.set_cons_zero, List.set_cons_succ]
                    refine wpAnyH_ready (rs := [21]) (by kernel_rfl) (by simp) ?_
                    refine (AllReadyH.cons (o := (Go.Oper.mk none (Go.Op.store 50 (Go.Operand.tmp 33) (Go.Operand.tmp 31)) 0 _ #[Go.Edge.mk 20 Go.Ground.data, Go.Edge.mk 18 Go.Ground.data, Go.Edge.mk 18 Go.Ground.chain, Go.Edge.mk 0 Go.Ground.phase, Go.Edge.mk 1 Go.Ground.phase, Go.Edge.mk 2 Go.Ground.phase, Go.Edge.mk 3 Go.Ground.phase, Go.Edge.mk 4 Go.Ground.phase, Go.Edge.mk 5 Go.Ground.phase, Go.Edge.mk 6 Go.Ground.phase, Go.Edge.mk 7 Go.Ground.phase, Go.Edge.mk 8 Go.Ground.phase, Go.Edge.mk 9 Go.Ground.phase, Go.Edge.mk 10 Go.Ground.phase, Go.Edge.mk 11 Go.Ground.phase, Go.Edge.mk 12 Go.Ground.phase, Go.Edge.mk 13 Go.Ground.phase, Go.Edge.mk 14 Go.Ground.phase, Go.Edge.mk 15 Go.Ground.phase, Go.Edge.mk 16 Go.Ground.phase, Go.Edge.mk 17 Go.Ground.phase, Go.Edge.mk 18 Go.Ground.phase] none)) rfl (fun K hK => ?_) AllReadyH.nil)
                    · skip
                      go_simp
                      refine hK.out _ _ ?_ (fun hHeld => ?_)
                      · exact HY.out _ _ (HK.out _ HG.out.2)
                      clear hK K
                      (try simp only [Act.put, List.setIfInBounds_toArray, List.set_cons_zero, List.set_cons_succ])
                      refine wpAnyH_done (by kernel_rfl) ?_ _
                      go_wp2
                      go_end0
                      have P := HN.out.1.opned HG.out.1 HG.out.2
                      have hwr : Wr F w _ := ((HA.out.2.1.drewN 1).trans HN.out.2 (Grew.refl _ _)).trans P.2 (fun k hk => hk.imp id fun h => Nat.le_trans (Nat.le_of_lt hwz) h.1)
                      exact ⟨rfl, _, P.1.disk, fun k hk => by
                        rcases hk with (hk | hk) | hk
                        · exact .inl hk
                        · exact .inr (Nat.le_trans (Nat.le_of_lt hwz) hk.1)
                        · exact .inr (Nat.le_trans (Nat.le_of_lt HZ.out) hk.1), hwr⟩
          · skip
            go_simp
            refine hK.out _ _ ?_ (fun hHeld => ?_)
            · first | exact ⟨k0, k1, k2, k3⟩ | exact HK.out _ (Below.refl _ _).drew | exact HK.out _ (HD.out _)
            clear hK K
            (try simp only [Act.put, List.setIfInBounds_toArray, List.set_cons_zero, List.set_cons_succ])
            refine wpAnyH_ready (rs := [4, 8, 13]) (by kernel_rfl) (by simp) ?_
            refine (AllReadyH.cons (o := (Go.Oper.mk (some 17) (Go.Op.load 50 (Go.Operand.tmp 16)) 50 _ #[Go.Edge.mk 3 Go.Ground.data] none)) rfl (fun K hK => ?_) (AllReadyH.cons (o := (Go.Oper.mk (some 21) (Go.Op.load 50 (Go.Operand.tmp 20)) 50 _ #[Go.Edge.mk 7 Go.Ground.data] none)) rfl (fun K hK => ?_) (AllReadyH.cons (o := (Go.Oper.mk (some 26) (Go.Op.load 50 (Go.Operand.tmp 25)) 50 _ #[Go.Edge.mk 12 Go.Ground.data] none)) rfl (fun K hK => ?_) AllReadyH.nil)))
            · skip
              go_simp
              refine hK.out _ _ ?_ (fun hHeld => ?_)
              · first | exact ⟨k0, k1, k2, k3⟩ | exact HK.out _ (Below.refl _ _).drew | exact HK.out _ (HD.out _)
              clear hK K
              (try simp only [Act.put, List.setIfInBounds_toArray, List.set_cons_zero, List.set_cons_succ])
              refine wpAnyH_ready (rs := [8, 13]) (by kernel_rfl) (by simp) ?_
              refine (AllReadyH.cons (o := (Go.Oper.mk (some 21) (Go.Op.load 50 (Go.Operand.tmp 20)) 50 _ #[Go.Edge.mk 7 Go.Ground.data] none)) rfl (fun K hK => ?_) (AllReadyH.cons (o := (Go.Oper.mk (some 26) (Go.Op.load 50 (Go.Operand.tmp 25)) 50 _ #[Go.Edge.mk 12 Go.Ground.data] none)) rfl (fun K hK => ?_) AllReadyH.nil))
              · skip
                go_simp
                refine hK.out _ _ ?_ (fun hHeld => ?_)
                · first | exact ⟨k0, k1, k2, k3⟩ | exact HK.out _ (Below.refl _ _).drew | exact HK.out _ (HD.out _)
                clear hK K
                (try simp only [Act.put, List.setIfInBounds_toArray, List.set_cons_zero, List.set_cons_succ])
                refine wpAnyH_take (i := 9) (oi := (Go.Oper.mk (some 22) (Go.Op.call (Go.Call.mk (Go.Callee.builtin Go.Builtin.len) #[Go.Operand.tmp 21] #[50])) 3 _ #[Go.Edge.mk 8 Go.Ground.data] none)) (v := ?_) rfl (by kernel_rfl) (by kernel_rfl) (by kernel_rfl) (fun _ _ _ h => h) (Or.inl ⟨by rfl, ?_⟩) hHeld ?_
                rotate_left
                · intro w hSw; (try dsimp only at hSw); go_simp; (try with_reducible rfl)
                simp only [Act.put, List.setIfInBounds_toArray, List.set_cons_zero, List.set_cons_succ]
                refine wpAnyH_ready (rs := [13]) (by kernel_rfl) (by simp) ?_
                refine (AllReadyH.cons (o := (Go.Oper.mk (some 26) (Go.Op.load 50 (Go.Operand.tmp 25)) 50 _ #[Go.Edge.mk 12 Go.Ground.data] none)) rfl (fun K hK => ?_) AllReadyH.nil)
                · skip
                  go_simp
                  refine hK.out _ _ ?_ (fun hHeld => ?_)
                  · first | exact ⟨k0, k1, k2, k3⟩ | exact HK.out _ (Below.refl _ _).drew | exact HK.out _ (HD.out _)
                  clear hK K
                  (try simp only [Act.put, List.setIfInBounds_toArray, List.set_cons_zero, List.set_cons_succ])
                  refine wpAnyH_take (i := 14) (oi := (Go.Oper.mk (some 27) (Go.Op.call (Go.Call.mk (Go.Callee.builtin Go.Builtin.len) #[Go.Operand.tmp 26] #[50])) 3 _ #[Go.Edge.mk 13 Go.Ground.data] none)) (v := ?_) rfl (by kernel_rfl) (by kernel_rfl) (by kernel_rfl) (fun _ _ _ h => h) (Or.inl ⟨by rfl, ?_⟩) hHeld ?_
                  rotate_left
                  · intro w hSw; (try dsimp only at hSw); go_simp; (try with_reducible rfl)
                  simp only [Act.put, List.setIfInBounds_toArray, List.set_cons_zero, List.set_cons_succ]
                  refine wpAnyH_take (i := 15) (oi := (Go.Oper.mk (some 28) (Go.Op.slice 50 (Go.Operand.tmp 17) none (some (Go.Operand.tmp 22)) (some (Go.Operand.tmp 27))) 50 _ #[Go.Edge.mk 4 Go.Ground.data, Go.Edge.mk 9 Go.Ground.data, Go.Edge.mk 14 Go.Ground.data] none)) (v := ?_) rfl (by kernel_rfl) (by kernel_rfl) (by kernel_rfl) (fun _ _ _ h => h) (Or.inl ⟨by rfl, ?_⟩) hHeld ?_
                  rotate_left
                  · intro w hSw; (try dsimp only at hSw); go_simp; (try with_reducible rfl)
                  simp only [Act.put, List.setIfInBounds_toArray, List.set_cons_zero, List.set_cons_succ]
                  refine wpAnyH_ready (rs := [18]) (by kernel_rfl) (by simp) ?_
                  refine (AllReadyH.cons (o := (Go.Oper.mk (some 31) (Go.Op.call (Go.Call.mk (Go.Callee.builtin Go.Builtin.append) #[Go.Operand.tmp 28, Go.Operand.tmp 30] #[50, 50])) 50 _ #[Go.Edge.mk 15 Go.Ground.data, Go.Edge.mk 17 Go.Ground.data] none)) rfl (fun K hK => ?_) AllReadyH.nil)
                  · skip
                    (refine step_append_grows rfl _ _ _ rfl 98 i0 _ 4 48 Try.underlying50 hi hz0 hz1 hz2 rfl (by omega) _ _ _ (S.opn.flatMap rcCells) rfl HO.out.2.2.1 HO.out.2.1 (HO.out.1 _ (HD.out _)) ⟨wn.heap.size, 0, none⟩ 1 1 [x0, x1, x2, x3] rfl rfl (World.news_of_block (cs := #[x0, x1, x2, x3]) (t := 98) (fr := (0, 0)) (heap_alloc_new wn _)) (by simp [o0, o1, o2, o3]) (by omega) hb1 hb2 ?_); intro v5 w5 hown5 hgrow5; have HG := grown_open hown5 hgrow5 (HD.out _) HO.out.2.2.2 hxl hblt HC3.out; obtain ⟨a5, n5, q5, rfl⟩ := HG.1; obtain ⟨HG1, c5, f5⟩ := HG.2; replace HG := Lib.hid HG1; clear HG1 hown5 hgrow5
                    refine hK.out _ _ ?_ (fun hHeld => ?_)
                    · exact HK.out _ HG.out.2
                    clear hK K
                    (try simp only [Act.put, List.setIfInBounds_toArray, List.set_cons_zero, List.set_cons_succ])
                    refine wpAnyH_take (i := 19) (oi := (Go.Oper.mk (some 32) (Go.Op.nilCheck (Go.Operand.tmp 13)) 0 _ #[Go.Edge.mk 0 Go.Ground.data, Go.Edge.mk 0 Go.Ground.phase, Go.Edge.mk 1 Go.Ground.phase, Go.Edge.mk 2 Go.Ground.phase, Go.Edge.mk 3 Go.Ground.phase, Go.Edge.mk 4 Go.Ground.phase, Go.Edge.mk 5 Go.Ground.phase, Go.Edge.mk 6 Go.Ground.phase, Go.Edge.mk 7 Go.Ground.phase, Go.Edge.mk 8 Go.Ground.phase, Go.Edge.mk 9 Go.Ground.phase, Go.Edge.mk 10 Go.Ground.phase, Go.Edge.mk 11 Go.Ground.phase, Go.Edge.mk 12 Go.Ground.phase, Go.Edge.mk 13 Go.Ground.phase, Go.Edge.mk 14 Go.Ground.phase, Go.Edge.mk 15 Go.Ground.phase, Go.Edge.mk 16 Go.Ground.phase, Go.Edge.mk 17 Go.Ground.phase, Go.Edge.mk 18 Go.Ground.phase] none)) (v := ?_) rfl (by kernel_rfl) (by kernel_rfl) (by kernel_rfl) (fun _ _ _ h => h) (Or.inl ⟨by rfl, ?_⟩) hHeld ?_
                    rotate_left
                    · intro w hSw; (try dsimp only at hSw); go_simp; (try with_reducible rfl)
                    simp only [Act.put, List.setIfInBounds_toArray, List.set_cons_zero, List.set_cons_succ]
                    refine wpAnyH_take (i := 20) (oi := (Go.Oper.mk (some 33) (Go.Op.fieldAddr 52 (Go.Operand.tmp 32) 3) 0 _ #[Go.Edge.mk 19 Go.Ground.data, Go.Edge.mk 0 Go.Ground.phase, Go.Edge.mk 1 Go.Ground.phase, Go.Edge.mk 2 Go.Ground.phase, Go.Edge.mk 3 Go.Ground.phase, Go.Edge.mk 4 Go.Ground.phase, Go.Edge.mk 5 Go.Ground.phase, Go.Edge.mk 6 Go.Ground.phase, Go.Edge.mk 7 Go.Ground.phase, Go.Edge.mk 8 Go.Ground.phase, Go.Edge.mk 9 Go.Ground.phase, Go.Edge.mk 10 Go.Ground.phase, Go.Edge.mk 11 Go.Ground.phase, Go.Edge.mk 12 Go.Ground.phase, Go.Edge.mk 13 Go.Ground.phase, Go.Edge.mk 14 Go.Ground.phase, Go.Edge.mk 15 Go.Ground.phase, Go.Edge.mk 16 Go.Ground.phase, Go.Edge.mk 17 Go.Ground.phase, Go.Edge.mk 18 Go.Ground.phase] none)) (v := ?_) rfl (by kernel_rfl) (by kernel_rfl) (by kernel_rfl) (fun _ _ _ h => h) (Or.inl ⟨by rfl, ?_⟩) hHeld ?_
                    rotate_left
                    · intro w hSw; (try dsimp only at hSw); go_simp; (try with_reducible rfl)
                    simp only [Act.put, List.setIfInBounds_toArray, List.set_cons_zero, List.set_cons_succ]
                    refine wpAnyH_ready (rs := [21]) (by kernel_rfl) (by simp) ?_
                    refine (AllReadyH.cons (o := (Go.Oper.mk none (Go.Op.store 50 (Go.Operand.tmp 33) (Go.Operand.tmp 31)) 0 _ #[Go.Edge.mk 20 Go.Ground.data, Go.Edge.mk 18 Go.Ground.data, Go.Edge.mk 18 Go.Ground.chain, Go.Edge.mk 0 Go.Ground.phase, Go.Edge.mk 1 Go.Ground.phase, Go.Edge.mk 2 Go.Ground.phase, Go.Edge.mk 3 Go.Ground.phase, Go.Edge.mk 4 Go.Ground.phase, Go.Edge.mk 5 Go.Ground.phase, Go.Edge.mk 6 Go.Ground.phase, Go.Edge.mk 7 Go.Ground.phase, Go.Edge.mk 8 Go.Ground.phase, Go.Edge.mk 9 Go.Ground.phase, Go.Edge.mk 10 Go.Ground.phase, Go.Edge.mk 11 Go.Ground.phase, Go.Edge.mk 12 Go.Ground.phase, Go.Edge.mk 13 Go.Ground.phase, Go.Edge.mk 14 Go.Ground.phase, Go.Edge.mk 15 Go.Ground.phase, Go.Edge.mk 16 Go.Ground.phase, Go.Edge.mk 17 Go.Ground.phase, Go.Edge.mk 18 Go.Ground.phase] none)) rfl (fun K hK => ?_) AllReadyH.nil)
                    · skip
                      go_simp
                      refine hK.out _ _ ?_ (fun hHeld => ?_)
                      · exact HY.out _ _ (HK.out _ HG.out.2)
                      clear hK K
                      (try simp only [Act.put, List.setIfInBounds_toArray, List.set_cons_zero, List.set_cons_succ])
                      refine wpAnyH_done (by kernel_rfl) ?_ _
                      go_wp2
                      go_end0
                      have P := HN.out.1.opned HG.out.1 HG.out.2
                      have hwr : Wr F w _ := ((HA.out.2.1.drewN 1).trans HN.out.2 (Grew.refl _ _)).trans P.2 (fun k hk => hk.imp id fun h => Nat.le_trans (Nat.le_of_lt hwz) h.1)
                      exact ⟨rfl, _, P.1.disk, fun k hk => by
                        rcases hk with (hk | hk) | hk
                        · exact .inl hk
                        · exact .inr (Nat.le_trans (Nat.le_of_lt hwz) hk.1)
                        · exact .inr (Nat.le_trans (Nat.le_of_lt HZ.out) hk.1), hwr⟩
              · skip
                go_simp
                refine hK.out _ _ ?_ (fun hHeld => ?_)
                · first | exact ⟨k0, k1, k2, k3⟩ | exact HK.out _ (Below.refl _ _).drew | exact HK.out _ (HD.out _)
                clear hK K
                (try simp only [Act.put, List.setIfInBounds_toArray, List.set_cons_zero, List.set_cons_succ])
                refine wpAnyH_take (i := 14) (oi := (Go.Oper.mk (some 27) (Go.Op.call (Go.Call.mk (Go.Callee.builtin Go.Builtin.len) #[Go.Operand.tmp 26] #[50])) 3 _ #[Go.Edge.mk 13 Go.Ground.data] none)) (v := ?_) rfl (by kernel_rfl) (by kernel_rfl) (by kernel_rfl) (fun _ _ _ h => h) (Or.inl ⟨by rfl, ?_⟩) hHeld ?_
                rotate_left
                · intro w hSw; (try dsimp only at hSw); go_simp; (try with_reducible rfl)
                simp only [Act.put, List.setIfInBounds_toArray, List.set_cons_zero, List.set_cons_succ]
                refine wpAnyH_ready (rs := [8]) (by kernel_rfl) (by simp) ?_
                refine (AllReadyH.cons (o := (Go.Oper.mk (some 21) (Go.Op.load 50 (Go.Operand.tmp 20)) 50 _ #[Go.Edge.mk 7 Go.Ground.data] none)) rfl (fun K hK => ?_) AllReadyH.nil)
                · skip
                  go_simp
                  refine hK.out _ _ ?_ (fun hHeld => ?_)
                  · first | exact ⟨k0, k1, k2, k3⟩ | exact HK.out _ (Below.refl _ _).drew | exact HK.out _ (HD.out _)
                  clear hK K
                  (try simp only [Act.put, List.setIfInBounds_toArray, List.set_cons_zero, List.set_cons_succ])
                  refine wpAnyH_take (i := 9) (oi := (Go.Oper.mk (some 22) (Go.Op.call (Go.Call.mk (Go.Callee.builtin Go.Builtin.len) #[Go.Operand.tmp 21] #[50])) 3 _ #[Go.Edge.mk 8 Go.Ground.data] none)) (v := ?_) rfl (by kernel_rfl) (by kernel_rfl) (by kernel_rfl) (fun _ _ _ h => h) (Or.inl ⟨by rfl, ?_⟩) hHeld ?_
                  rotate_left
                  · intro w hSw; (try dsimp only at hSw); go_simp; (try with_reducible rfl)
                  simp only [Act.put, List.setIfInBounds_toArray, List.set_cons_zero, List.set_cons_succ]
                  refine wpAnyH_take (i := 15) (oi := (Go.Oper.mk (some 28) (Go.Op.slice 50 (Go.Operand.tmp 17) none (some (Go.Operand.tmp 22)) (some (Go.Operand.tmp 27))) 50 _ #[Go.Edge.mk 4 Go.Ground.data, Go.Edge.mk 9 Go.Ground.data, Go.Edge.mk 14 Go.Ground.data] none)) (v := ?_) rfl (by kernel_rfl) (by kernel_rfl) (by kernel_rfl) (fun _ _ _ h => h) (Or.inl ⟨by rfl, ?_⟩) hHeld ?_
                  rotate_left
                  · intro w hSw; (try dsimp only at hSw); go_simp; (try with_reducible rfl)
                  simp only [Act.put, List.setIfInBounds_toArray, List.set_cons_zero, List.set_cons_succ]
                  refine wpAnyH_ready (rs := [18]) (by kernel_rfl) (by simp) ?_
                  refine (AllReadyH.cons (o := (Go.Oper.mk (some 31) (Go.Op.call (Go.Call.mk (Go.Callee.builtin Go.Builtin.append) #[Go.Operand.tmp 28, Go.Operand.tmp 30] #[50, 50])) 50 _ #[Go.Edge.mk 15 Go.Ground.data, Go.Edge.mk 17 Go.Ground.data] none)) rfl (fun K hK => ?_) AllReadyH.nil)
                  · skip
                    (refine step_append_grows rfl _ _ _ rfl 98 i0 _ 4 48 Try.underlying50 hi hz0 hz1 hz2 rfl (by omega) _ _ _ (S.opn.flatMap rcCells) rfl HO.out.2.2.1 HO.out.2.1 (HO.out.1 _ (HD.out _)) ⟨wn.heap.size, 0, none⟩ 1 1 [x0, x1, x2, x3] rfl rfl (World.news_of_block (cs := #[x0, x1, x2, x3]) (t := 98) (fr := (0, 0)) (heap_alloc_new wn _)) (by simp [o0, o1, o2, o3]) (by omega) hb1 hb2 ?_); intro v5 w5 hown5 hgrow5; have HG := grown_open hown5 hgrow5 (HD.out _) HO.out.2.2.2 hxl hblt HC3.out; obtain ⟨a5, n5, q5, rfl⟩ := HG.1; obtain ⟨HG1, c5, f5⟩ := HG.2; replace HG := Lib.hid HG1; clear HG1 hown5 hgrow5
                    refine hK.out _ _ ?_ (fun hHeld => ?_)
                    · exact HK.out _ HG.out.2
                    clear hK K
                    (try simp only [Act.put, List.setIfInBounds_toArray, List.set_cons_zero, List.set_cons_succ])
                    refine wpAnyH_take (i := 19) (oi := (Go.Oper.mk (some 32) (Go.Op.nilCheck (Go.Operand.tmp 13)) 0 _ #[Go.Edge.mk 0 Go.Ground.data, Go.Edge.mk 0 Go.Ground.phase, Go.Edge.mk 1 Go.Ground.phase, Go.Edge.mk 2 Go.Ground.phase, Go.Edge.mk 3 Go.Ground.phase, Go.Edge.mk 4 Go.Ground.phase, Go.Edge.mk 5 Go.Ground.phase, Go.Edge.mk 6 Go.Ground.phase, Go.Edge.mk 7 Go.Ground.phase, Go.Edge.mk 8 Go.Ground.phase, Go.Edge.mk 9 Go.Ground.phase, Go.Edge.mk 10 Go.Ground.phase, Go.Edge.mk 11 Go.Ground.phase, Go.Edge.mk 12 Go.Ground.phase, Go.Edge.mk 13 Go.Ground.phase, Go.Edge.mk 14 Go.Ground.phase, Go.Edge.mk 15 Go.Ground.phase, Go.Edge.mk 16 Go.Ground.phase, Go.Edge.mk 17 Go.Ground.phase, Go.Edge.mk 18 Go.Ground.phase] none)) (v := ?_) rfl (by kernel_rfl) (by kernel_rfl) (by kernel_rfl) (fun _ _ _ h => h) (Or.inl ⟨by rfl, ?_⟩) hHeld ?_
                    rotate_left
                    · intro w hSw; (try dsimp only at hSw); go_simp; (try with_reducible rfl)
                    simp only [Act.put, List.setIfInBounds_toArray, List.set_cons_zero, List.set_cons_succ]
                    refine wpAnyH_take (i := 20) (oi := (Go.Oper.mk (some 33) (Go.Op.fieldAddr 52 (Go.Operand.tmp 32) 3) 0 _ #[Go.Edge.mk 19 Go.Ground.data, Go.Edge.mk 0 Go.Ground.phase, Go.Edge.mk 1 Go.Ground.phase, Go.Edge.mk 2 Go.Ground.phase, Go.Edge.mk 3 Go.Ground.phase, Go.Edge.mk 4 Go.Ground.phase, Go.Edge.mk 5 Go.Ground.phase, Go.Edge.mk 6 Go.Ground.phase, Go.Edge.mk 7 Go.Ground.phase, Go.Edge.mk 8 Go.Ground.phase, Go.Edge.mk 9 Go.Ground.phase, Go.Edge.mk 10 Go.Ground.phase, Go.Edge.mk 11 Go.Ground.phase, Go.Edge.mk 12 Go.Ground.phase, Go.Edge.mk 13 Go.Ground.phase, Go.Edge.mk 14 Go.Ground.phase, Go.Edge.mk 15 Go.Ground.phase, Go.Edge.mk 16 Go.Ground.phase, Go.Edge.mk 17 Go.Ground.phase, Go.Edge.mk 18 Go.Ground.phase] none)) (v := ?_) rfl (by kernel_rfl) (by kernel_rfl) (by kernel_rfl) (fun _ _ _ h => h) (Or.inl ⟨by rfl, ?_⟩) hHeld ?_
                    rotate_left
                    · intro w hSw; (try dsimp only at hSw); go_simp; (try with_reducible rfl)
                    simp only [Act.put, List.setIfInBounds_toArray, List.set_cons_zero, List.set_cons_succ]
                    refine wpAnyH_ready (rs := [21]) (by kernel_rfl) (by simp) ?_
                    refine (AllReadyH.cons (o := (Go.Oper.mk none (Go.Op.store 50 (Go.Operand.tmp 33) (Go.Operand.tmp 31)) 0 _ #[Go.Edge.mk 20 Go.Ground.data, Go.Edge.mk 18 Go.Ground.data, Go.Edge.mk 18 Go.Ground.chain, Go.Edge.mk 0 Go.Ground.phase, Go.Edge.mk 1 Go.Ground.phase, Go.Edge.mk 2 Go.Ground.phase, Go.Edge.mk 3 Go.Ground.phase, Go.Edge.mk 4 Go.Ground.phase, Go.Edge.mk 5 Go.Ground.phase, Go.Edge.mk 6 Go.Ground.phase, Go.Edge.mk 7 Go.Ground.phase, Go.Edge.mk 8 Go.Ground.phase, Go.Edge.mk 9 Go.Ground.phase, Go.Edge.mk 10 Go.Ground.phase, Go.Edge.mk 11 Go.Ground.phase, Go.Edge.mk 12 Go.Ground.phase, Go.Edge.mk 13 Go.Ground.phase, Go.Edge.mk 14 Go.Ground.phase, Go.Edge.mk 15 Go.Ground.phase, Go.Edge.mk 16 Go.Ground.phase, Go.Edge.mk 17 Go.Ground.phase, Go.Edge.mk 18 Go.Ground.phase] none)) rfl (fun K hK => ?_) AllReadyH.nil)
                    · skip
                      go_simp
                      refine hK.out _ _ ?_ (fun hHeld => ?_)
                      · exact HY.out _ _ (HK.out _ HG.out.2)
                      clear hK K
                      (try simp only [Act.put, List.setIfInBounds_toArray, List.set_cons_zero, List.set_cons_succ])
                      refine wpAnyH_done (by kernel_rfl) ?_ _
                      go_wp2
                      go_end0
                      have P := HN.out.1.opned HG.out.1 HG.out.2
                      have hwr : Wr F w _ := ((HA.out.2.1.drewN 1).trans HN.out.2 (Grew.refl _ _)).trans P.2 (fun k hk => hk.imp id fun h => Nat.le_trans (Nat.le_of_lt hwz) h.1)
                      exact ⟨rfl, _, P.1.disk, fun k hk => by
                        rcases hk with (hk | hk) | hk
                        · exact .inl hk
                        · exact .inr (Nat.le_trans (Nat.le_of_lt hwz) hk.1)
                        · exact .inr (Nat.le_trans (Nat.le_of_lt HZ.out) hk.1), hwr⟩
            · skip
              go_simp
              refine hK.out _ _ ?_ (fun hHeld => ?_)
              · first | exact ⟨k0, k1, k2, k3⟩ | exact HK.out _ (Below.refl _ _).drew | exact HK.out _ (HD.out _)
              clear hK K
              (try simp only [Act.put, List.setIfInBounds_toArray, List.set_cons_zero, List.set_cons_succ])
              refine wpAnyH_take (i := 9) (oi := (Go.Oper.mk (some 22) (Go.Op.call (Go.Call.mk (Go.Callee.builtin Go.Builtin.len) #[Go.Operand.tmp 21] #[50])) 3 _ #[Go.Edge.mk 8 Go.Ground.data] none)) (v := ?_) rfl (by kernel_rfl) (by kernel_rfl) (by kernel_rfl) (fun _ _ _ h => h) (Or.inl ⟨by rfl, ?_⟩) hHeld ?_
              rotate_left
              · intro w hSw; (try dsimp only at hSw); go_simp; (try with_reducible rfl)
              simp only [Act.put, List.setIfInBounds_toArray, List.set_cons_zero, List.set_cons_succ]
              refine wpAnyH_ready (rs := [4, 13]) (by kernel_rfl) (by simp) ?_
              refine (AllReadyH.cons (o := (Go.Oper.mk (some 17) (Go.Op.load 50 (Go.Operand.tmp 16)) 50 _ #[Go.Edge.mk 3 Go.Ground.data] none)) rfl (fun K hK => ?_) (AllReadyH.cons (o := (Go.Oper.mk (some 26) (Go.Op.load 50 (Go.Operand.tmp 25)) 50 _ #[Go.Edge.mk 12 Go.Ground.data] none)) rfl (fun K hK => ?_) AllReadyH.nil))
              · skip
                go_simp
                refine hK.out _ _ ?_ (fun hHeld => ?_)
                · first | exact ⟨k0, k1, k2, k3⟩ | exact HK.out _ (Below.refl _ _).drew | exact HK.out _ (HD.out _)
                clear hK K
                (try simp only [Act.put, List.setIfInBounds_toArray, List.set_cons_zero, List.set_cons_succ])
                refine wpAnyH_ready (rs := [13]) (by kernel_rfl) (by simp) ?_
                refine (AllReadyH.cons (o := (Go.Oper.mk (some 26) (Go.Op.load 50 (Go.Operand.tmp 25)) 50 _ #[Go.Edge.mk 12 Go.Ground.data] none)) rfl (fun K hK => ?_) AllReadyH.nil)
                · skip
                  go_simp
                  refine hK.out _ _ ?_ (fun hHeld => ?_)
                  · first | exact ⟨k0, k1, k2, k3⟩ | exact HK.out _ (Below.refl _ _).drew | exact HK.out _ (HD.out _)
                  clear hK K
                  (try simp only [Act.put, List.setIfInBounds_toArray, List.set_cons_zero, List.set_cons_succ])
                  refine wpAnyH_take (i := 14) (oi := (Go.Oper.mk (some 27) (Go.Op.call (Go.Call.mk (Go.Callee.builtin Go.Builtin.len) #[Go.Operand.tmp 26] #[50])) 3 _ #[Go.Edge.mk 13 Go.Ground.data] none)) (v := ?_) rfl (by kernel_rfl) (by kernel_rfl) (by kernel_rfl) (fun _ _ _ h => h) (Or.inl ⟨by rfl, ?_⟩) hHeld ?_
                  rotate_left
                  · intro w hSw; (try dsimp only at hSw); go_simp; (try with_reducible rfl)
                  simp only [Act.put, List.setIfInBounds_toArray, List.set_cons_zero, List.set_cons_succ]
                  refine wpAnyH_take (i := 15) (oi := (Go.Oper.mk (some 28) (Go.Op.slice 50 (Go.Operand.tmp 17) none (some (Go.Operand.tmp 22)) (some (Go.Operand.tmp 27))) 50 _ #[Go.Edge.mk 4 Go.Ground.data, Go.Edge.mk 9 Go.Ground.data, Go.Edge.mk 14 Go.Ground.data] none)) (v := ?_) rfl (by kernel_rfl) (by kernel_rfl) (by kernel_rfl) (fun _ _ _ h => h) (Or.inl ⟨by rfl, ?_⟩) hHeld ?_
                  rotate_left
                  · intro w hSw; (try dsimp only at hSw); go_simp; (try with_reducible rfl)
                  simp only [Act.put, List.setIfInBounds_toArray, List.set_cons_zero, List.set_cons_succ]
                  refine wpAnyH_ready (rs := [18]) (by kernel_rfl) (by simp) ?_
                  refine (AllReadyH.cons (o := (Go.Oper.mk (some 31) (Go.Op.call (Go.Call.mk (Go.Callee.builtin Go.Builtin.append) #[Go.Operand.tmp 28, Go.Operand.tmp 30] #[50, 50])) 50 _ #[Go.Edge.mk 15 Go.Ground.data, Go.Edge.mk 17 Go.Ground.data] none)) rfl (fun K hK => ?_) AllReadyH.nil)
                  · skip
                    (refine step_append_grows rfl _ _ _ rfl 98 i0 _ 4 48 Try.underlying50 hi hz0 hz1 hz2 rfl (by omega) _ _ _ (S.opn.flatMap rcCells) rfl HO.out.2.2.1 HO.out.2.1 (HO.out.1 _ (HD.out _)) ⟨wn.heap.size, 0, none⟩ 1 1 [x0, x1, x2, x3] rfl rfl (World.news_of_block (cs := #[x0, x1, x2, x3]) (t := 98) (fr := (0, 0)) (heap_alloc_new wn _)) (by simp [o0, o1, o2, o3]) (by omega) hb1 hb2 ?_); intro v5 w5 hown5 hgrow5; have HG := grown_open hown5 hgrow5 (HD.out _) HO.out.2.2.2 hxl hblt HC3.out; obtain ⟨a5, n5, q5, rfl⟩ := HG.1; obtain ⟨HG1, c5, f5⟩ := HG.2; replace HG := Lib.hid HG1; clear HG1 hown5 hgrow5
                    refine hK.out _ _ ?_ (fun hHeld => ?_)
                    · exact HK.out _ HG.out.2
                    clear hK K
                    (try simp only [Act.put, List.setIfInBounds_toArray, List.set_cons_zero, List.set_cons_succ])
                    refine wpAnyH_take (i := 19) (oi := (Go.Oper.mk (some 32) (Go.Op.nilCheck (Go.Operand.tmp 13)) 0 _ #[Go.Edge.mk 0 Go.Ground.data, Go.Edge.mk 0 Go.Ground.phase, Go.Edge.mk 1 Go.Ground.phase, Go.Edge.mk 2 Go.Ground.phase, Go.Edge.mk 3 Go.Ground.phase, Go.Edge.mk 4 Go.Ground.phase, Go.Edge.mk 5 Go.Ground.phase, Go.Edge.mk 6 Go.Ground.phase, Go.Edge.mk 7 Go.Ground.phase, Go.Edge.mk 8 Go.Ground.phase, Go.Edge.mk 9 Go.Ground.phase, Go.Edge.mk 10 Go.Ground.phase, Go.Edge.mk 11 Go.Ground.phase, Go.Edge.mk 12 Go.Ground.phase, Go.Edge.mk 13 Go.Ground.phase, Go.Edge.mk 14 Go.Ground.phase, Go.Edge.mk 15 Go.Ground.phase, Go.Edge.mk 16 Go.Ground.phase, Go.Edge.mk 17 Go.Ground.phase, Go.Edge.mk 18 Go.Ground.phase] none)) (v := ?_) rfl (by kernel_rfl) (by kernel_rfl) (by kernel_rfl) (fun _ _ _ h => h) (Or.inl ⟨by rfl, ?_⟩) hHeld ?_
                    rotate_left
                    · intro w hSw; (try dsimp only at hSw); go_simp; (try with_reducible rfl)
                    simp only [Act.put, List.setIfInBounds_toArray, List.set_cons_zero, List.set_cons_succ]
                    refine wpAnyH_take (i := 20) (oi := (Go.Oper.mk (some 33) (Go.Op.fieldAddr 52 (Go.Operand.tmp 32) 3) 0 _ #[Go.Edge.mk 19 Go.Ground.data, Go.Edge.mk 0 Go.Ground.phase, Go.Edge.mk 1 Go.Ground.phase, Go.Edge.mk 2 Go.Ground.phase, Go.Edge.mk 3 Go.Ground.phase, Go.Edge.mk 4 Go.Ground.phase, Go.Edge.mk 5 Go.Ground.phase, Go.Edge.mk 6 Go.Ground.phase, Go.Edge.mk 7 Go.Ground.phase, Go.Edge.mk 8 Go.Ground.phase, Go.Edge.mk 9 Go.Ground.phase, Go.Edge.mk 10 Go.Ground.phase, Go.Edge.mk 11 Go.Ground.phase, Go.Edge.mk 12 Go.Ground.phase, Go.Edge.mk 13 Go.Ground.phase, Go.Edge.mk 14 Go.Ground.phase, Go.Edge.mk 15 Go.Ground.phase, Go.Edge.mk 16 Go.Ground.phase, Go.Edge.mk 17 Go.Ground.phase, Go.Edge.mk 18 Go.Ground.phase] none)) (v := ?_) rfl (by kernel_rfl) (by kernel_rfl) (by kernel_rfl) (fun _ _ _ h => h) (Or.inl ⟨by rfl, ?_⟩) hHeld ?_
                    rotate_left
                    · intro w hSw; (try dsimp only at hSw); go_simp; (try with_reducible rfl)
                    simp only [Act.put, List.setIfInBounds_toArray, List.set_cons_zero, List.set_cons_succ]
                    refine wpAnyH_ready (rs := [21]) (by kernel_rfl) (by simp) ?_
                    refine (AllReadyH.cons (o := (Go.Oper.mk none (Go.Op.store 50 (Go.Operand.tmp 33) (Go.Operand.tmp 31)) 0 _ #[Go.Edge.mk 20 Go.Ground.data, Go.Edge.mk 18 Go.Ground.data, Go.Edge.mk 18 Go.Ground.chain, Go.Edge.mk 0 Go.Ground.phase, Go.Edge.mk 1 Go.Ground.phase, Go.Edge.mk 2 Go.Ground.phase, Go.Edge.mk 3 Go.Ground.phase, Go.Edge.mk 4 Go.Ground.phase, Go.Edge.mk 5 Go.Ground.phase, Go.Edge.mk 6 Go.Ground.phase, Go.Edge.mk 7 Go.Ground.phase, Go.Edge.mk 8 Go.Ground.phase, Go.Edge.mk 9 Go.Ground.phase, Go.Edge.mk 10 Go.Ground.phase, Go.Edge.mk 11 Go.Ground.phase, Go.Edge.mk 12 Go.Ground.phase, Go.Edge.mk 13 Go.Ground.phase, Go.Edge.mk 14 Go.Ground.phase, Go.Edge.mk 15 Go.Ground.phase, Go.Edge.mk 16 Go.Ground.phase, Go.Edge.mk 17 Go.Ground.phase, Go.Edge.mk 18 Go.Ground.phase] none)) rfl (fun K hK => ?_) AllReadyH.nil)
                    · skip
                      go_simp
                      refine hK.out _ _ ?_ (fun hHeld => ?_)
                      · exact HY.out _ _ (HK.out _ HG.out.2)
                      clear hK K
                      (try simp only [Act.put, List.setIfInBounds_toArray, List.set_cons_zero, List.set_cons_succ])
                      refine wpAnyH_done (by kernel_rfl) ?_ _
                      go_wp2
                      go_end0
                      have P := HN.out.1.opned HG.out.1 HG.out.2
                      have hwr : Wr F w _ := ((HA.out.2.1.drewN 1).trans HN.out.2 (Grew.refl _ _)).trans P.2 (fun k hk => hk.imp id fun h => Nat.le_trans (Nat.le_of_lt hwz) h.1)
                      exact ⟨rfl, _, P.1.disk, fun k hk => by
                        rcases hk with (hk | hk) | hk
                        · exact .inl hk
                        · exact .inr (Nat.le_trans (Nat.le_of_lt hwz) hk.1)
                        · exact .inr (Nat.le_trans (Nat.le_of_lt HZ.out) hk.1), hwr⟩
              · skip
                go_simp
                refine hK.out _ _ ?_ (fun hHeld => ?_)
                · first | exact ⟨k0, k1, k2, k3⟩ | exact HK.out _ (Below.refl _ _).drew | exact HK.out _ (HD.out _)
                clear hK K
                (try simp only [Act.put, List.setIfInBounds_toArray, List.set_cons_zero, List.set_cons_succ])
                refine wpAnyH_take (i := 14) (oi := (Go.Oper.mk (some 27) (Go.Op.call (Go.Call.mk (Go.Callee.builtin Go.Builtin.len) #[Go.Operand.tmp 26] #[50])) 3 _ #[Go.Edge.mk 13 Go.Ground.data] none)) (v := ?_) rfl (by kernel_rfl) (by kernel_rfl) (by kernel_rfl) (fun _ _ _ h => h) (Or.inl ⟨by rfl, ?_⟩) hHeld ?_
                rotate_left
                · intro w hSw; (try dsimp only at hSw); go_simp; (try with_reducible rfl)
                simp only [Act.put, List.setIfInBounds_toArray, List.set_cons_zero, List.set_cons_succ]
                refine wpAnyH_ready (rs := [4]) (by kernel_rfl) (by simp) ?_
                refine (AllReadyH.cons (o := (Go.Oper.mk (some 17) (Go.Op.load 50 (Go.Operand.tmp 16)) 50 _ #[Go.Edge.mk 3 Go.Ground.data] none)) rfl (fun K hK => ?_) AllReadyH.nil)
                · skip
                  go_simp
                  refine hK.out _ _ ?_ (fun hHeld => ?_)
                  · first | exact ⟨k0, k1, k2, k3⟩ | exact HK.out _ (Below.refl _ _).drew | exact HK.out _ (HD.out _)
                  clear hK K
                  (try simp only [Act.put, List.setIfInBounds_toArray, List.set_cons_zero, List.set_cons_succ])
                  refine wpAnyH_take (i := 15) (oi := (Go.Oper.mk (some 28) (Go.Op.slice 50 (Go.Operand.tmp 17) none (some (Go.Operand.tmp 22)) (some (Go.Operand.tmp 27))) 50 _ #[Go.Edge.mk 4 Go.Ground.data, Go.Edge.mk 9 Go.Ground.data, Go.Edge.mk 14 Go.Ground.data] none)) (v := ?_) rfl (by kernel_rfl) (by kernel_rfl) (by kernel_rfl) (fun _ _ _ h => h) (Or.inl ⟨by rfl, ?_⟩) hHeld ?_
                  rotate_left
                  · intro w hSw; (try dsimp only at hSw); go_simp; (try with_reducible rfl)
                  simp only [Act.put, List.setIfInBounds_toArray, List.set_cons_zero, List.set_cons_succ]
                  refine wpAnyH_ready (rs := [18]) (by kernel_rfl) (by simp) ?_
                  refine (AllReadyH.cons (o := (Go.Oper.mk (some 31) (Go.Op.call (Go.Call.mk (Go.Callee.builtin Go.Builtin.append) #[Go.Operand.tmp 28, Go.Operand.tmp 30] #[50, 50])) 50 _ #[Go.Edge.mk 15 Go.Ground.data, Go.Edge.mk 17 Go.Ground.data] none)) rfl (fun K hK => ?_) AllReadyH.nil)
                  · skip
                    (refine step_append_grows rfl _ _ _ rfl 98 i0 _ 4 48 Try.underlying50 hi hz0 hz1 hz2 rfl (by omega) _ _ _ (S.opn.flatMap rcCells) rfl HO.out.2.2.1 HO.out.2.1 (HO.out.1 _ (HD.out _)) ⟨wn.heap.size, 0, none⟩ 1 1 [x0, x1, x2, x3] rfl rfl (World.news_of_block (cs := #[x0, x1, x2, x3]) (t := 98) (fr := (0, 0)) (heap_alloc_new wn _)) (by simp [o0, o1, o2, o3]) (by omega) hb1 hb2 ?_); intro v5 w5 hown5 hgrow5; have HG := grown_open hown5 hgrow5 (HD.out _) HO.out.2.2.2 hxl hblt HC3.out; obtain ⟨a5, n5, q5, rfl⟩ := HG.1; obtain ⟨HG1, c5, f5⟩ := HG.2; replace HG := Lib.hid HG1; clear HG1 hown5 hgrow5
                    refine hK.out _ _ ?_ (fun hHeld => ?_)
                    · exact HK.out _ HG.out.2
                    clear hK K
                    (try simp only [Act.put, List.setIfInBounds_toArray, List.set_cons_zero, List.set_cons_succ])
                    refine wpAnyH_take (i := 19) (oi := (Go.Oper.mk (some 32) (Go.Op.nilCheck (Go.Operand.tmp 13)) 0 _ #[Go.Edge.mk 0 Go.Ground.data, Go.Edge.mk 0 Go.Ground.phase, Go.Edge.mk 1 Go.Ground.phase, Go.Edge.mk 2 Go.Ground.phase, Go.Edge.mk 3 Go.Ground.phase, Go.Edge.mk 4 Go.Ground.phase, Go.Edge.mk 5 Go.Ground.phase, Go.Edge.mk 6 Go.Ground.phase, Go.Edge.mk 7 Go.Ground.phase, Go.Edge.mk 8 Go.Ground.phase, Go.Edge.mk 9 Go.Ground.phase, Go.Edge.mk 10 Go.Ground.phase, Go.Edge.mk 11 Go.Ground.phase, Go.Edge.mk 12 Go.Ground.phase, Go.Edge.mk 13 Go.Ground.phase, Go.Edge.mk 14 Go.Ground.phase, Go.Edge.mk 15 Go.Ground.phase, Go.Edge.mk 16 Go.Ground.phase, Go.Edge.mk 17 Go.Ground.phase, Go.Edge.mk 18 Go.Ground.phase] none)) (v := ?_) rfl (by kernel_rfl) (by kernel_rfl) (by kernel_rfl) (fun _ _ _ h => h) (Or.inl ⟨by rfl, ?_⟩) hHeld ?_
                    rotate_left
                    · intro w hSw; (try dsimp only at hSw); go_simp; (try with_reducible rfl)
                    simp only [Act.put, List.setIfInBounds_toArray, List.set_cons_zero, List.set_cons_succ]
                    refine wpAnyH_take (i := 20) (oi := (Go.Oper.mk (some 33) (Go.Op.fieldAddr 52 (Go.Operand.tmp 32) 3) 0 _ #[Go.Edge.mk 19 Go.Ground.data, Go.Edge.mk 0 Go.Ground.phase, Go.Edge.mk 1 Go.Ground.phase, Go.Edge.mk 2 Go.Ground.phase, Go.Edge.mk 3 Go.Ground.phase, Go.Edge.mk 4 Go.Ground.phase, Go.Edge.mk 5 Go.Ground.phase, Go.Edge.mk 6 Go.Ground.phase, Go.Edge.mk 7 Go.Ground.phase, Go.Edge.mk 8 Go.Ground.phase, Go.Edge.mk 9 Go.Ground.phase, Go.Edge.mk 10 Go.Ground.phase, Go.Edge.mk 11 Go.Ground.phase, Go.Edge.mk 12 Go.Ground.phase, Go.Edge.mk 13 Go.Ground.phase, Go.Edge.mk 14 Go.Ground.phase, Go.Edge.mk 15 Go.Ground.phase, Go.Edge.mk 16 Go.Ground.phase, Go.Edge.mk 17 Go.Ground.phase, Go.Edge.mk 18 Go.Ground.phase] none)) (v := ?_) rfl (by kernel_rfl) (by kernel_rfl) (by kernel_rfl) (fun _ _ _ h => h) (Or.inl ⟨by rfl, ?_⟩) hHeld ?_
                    rotate_left
                    · intro w hSw; (try dsimp only at hSw); go_simp; (try with_reducible rfl)
                    simp only [Act.put, List.setIfInBounds_toArray, List.set_cons_zero, List.set_cons_succ]
                    refine wpAnyH_ready (rs := [21]) (by kernel_rfl) (by simp) ?_
                    refine (AllReadyH.cons (o := (Go.Oper.mk none (Go.Op.store 50 (Go.Operand.tmp 33) (Go.Operand.tmp 31)) 0 _ #[Go.Edge.mk 20 Go.Ground.data, Go.Edge.mk 18 Go.Ground.data, Go.Edge.mk 18 Go.Ground.chain, Go.Edge.mk 0 Go.Ground.phase, Go.Edge.mk 1 Go.Ground.phase, Go.Edge.mk 2 Go.Ground.phase, Go.Edge.mk 3 Go.Ground.phase, Go.Edge.mk 4 Go.Ground.phase, Go.Edge.mk 5 Go.Ground.phase, Go.Edge.mk 6 Go.Ground.phase, Go.Edge.mk 7 Go.Ground.phase, Go.Edge.mk 8 Go.Ground.phase, Go.Edge.mk 9 Go.Ground.phase, Go.Edge.mk 10 Go.Ground.phase, Go.Edge.mk 11 Go.Ground.phase, Go.Edge.mk 12 Go.Ground.phase, Go.Edge.mk 13 Go.Ground.phase, Go.Edge.mk 14 Go.Ground.phase, Go.Edge.mk 15 Go.Ground.phase, Go.Edge.mk 16 Go.Ground.phase, Go.Edge.mk 17 Go.Ground.phase, Go.Edge.mk 18 Go.Ground.phase] none)) rfl (fun K hK => ?_) AllReadyH.nil)
                    · skip
                      go_simp
                      refine hK.out _ _ ?_ (fun hHeld => ?_)
                      · exact HY.out _ _ (HK.out _ HG.out.2)
                      clear hK K
                      (try simp only [Act.put, List.setIfInBounds_toArray, List.set_cons_zero, List.set_cons_succ])
                      refine wpAnyH_done (by kernel_rfl) ?_ _
                      go_wp2
                      go_end0
                      have P := HN.out.1.opned HG.out.1 HG.out.2
                      have hwr : Wr F w _ := ((HA.out.2.1.drewN 1).trans HN.out.2 (Grew.refl _ _)).trans P.2 (fun k hk => hk.imp id fun h => Nat.le_trans (Nat.le_of_lt hwz) h.1)
                      exact ⟨rfl, _, P.1.disk, fun k hk => by
                        rcases hk with (hk | hk) | hk
                        · exact .inl hk
                        · exact .inr (Nat.le_trans (Nat.le_of_lt hwz) hk.1)
                        · exact .inr (Nat.le_trans (Nat.le_of_lt HZ.out) hk.1), hwr⟩
            · skip
              go_simp
              refine hK.out _ _ ?_ (fun hHeld => ?_)
              · first | exact ⟨k0, k1, k2, k3⟩ | exact HK.out _ (Below.refl _ _).drew | exact HK.out _ (HD.out _)
              clear hK K
              (try simp only [Act.put, List.setIfInBounds_toArray, List.set_cons_zero, List.set_cons_succ])
              refine wpAnyH_take (i := 14) (oi := (Go.Oper.mk (some 27) (Go.Op.call (Go.Call.mk (Go.Callee.builtin Go.Builtin.len) #[Go.Operand.tmp 26] #[50])) 3 _ #[Go.Edge.mk 13 Go.Ground.data] none)) (v := ?_) rfl (by kernel_rfl) (by kernel_rfl) (by kernel_rfl) (fun _ _ _ h => h) (Or.inl ⟨by rfl, ?_⟩) hHeld ?_
              rotate_left
              · intro w hSw; (try dsimp only at hSw); go_simp; (try with_reducible rfl)
              simp only [Act.put, List.setIfInBounds_toArray, List.set_cons_zero, List.set_cons_succ]
              refine wpAnyH_ready (rs := [4, 8]) (by kernel_rfl) (by simp) ?_
              refine (AllReadyH.cons (o := (Go.Oper.mk (some 17) (Go.Op.load 50 (Go.Operand.tmp 16)) 50 _ #[Go.Edge.mk 3 Go.Ground.data] none)) rfl (fun K hK => ?_) (AllReadyH.cons (o := (Go.Oper.mk (some 21) (Go.Op.load 50 (Go.Operand.tmp 20)) 50 _ #[Go.Edge.mk 7 Go.Ground.data] none)) rfl (fun K hK => ?_) AllReadyH.nil))
              · skip
                go_simp
                refine hK.out _ _ ?_ (fun hHeld => ?_)
                · first | exact ⟨k0, k1, k2, k3⟩ | exact HK.out _ (Below.refl _ _).drew | exact HK.out _ (HD.out _)
                clear hK K
                (try simp only [Act.put, List.setIfInBounds_toArray, List.set_cons_zero, List.set_cons_succ])
                refine wpAnyH_ready (rs := [8]) (by kernel_rfl) (by simp) ?_
                refine (AllReadyH.cons (o := (Go.Oper.mk (some 21) (Go.Op.load 50 (Go.Operand.tmp 20)) 50 _ #[Go.Edge.mk 7 Go.Ground.data] none)) rfl (fun K hK => ?_) AllReadyH.nil)
                · skip
                  go_simp
                  refine hK.out _ _ ?_ (fun hHeld => ?_)
                  · first | exact ⟨k0, k1, k2, k3⟩ | exact HK.out _ (Below.refl _ _).drew | exact HK.out _ (HD.out _)
                  clear hK K
                  (try simp only [Act.put, List.setIfInBounds_toArray, List.set_cons_zero, List.set_cons_succ])
                  refine wpAnyH_take (i := 9) (oi := (Go.Oper.mk (some 22) (Go.Op.call (Go.Call.mk (Go.Callee.builtin Go.Builtin.len) #[Go.Operand.tmp 21] #[50])) 3 _ #[Go.Edge.mk 8 Go.Ground.data] none)) (v := ?_) rfl (by kernel_rfl) (by kernel_rfl) (by kernel_rfl) (fun _ _ _ h => h) (Or.inl ⟨by rfl, ?_⟩) hHeld ?_
                  rotate_left
                  · intro w hSw; (try dsimp only at hSw); go_simp; (try with_reducible rfl)
                  simp only [Act.put, List.setIfInBounds_toArray, List.set_cons_zero, List.set_cons_succ]
                  refine wpAnyH_take (i := 15) (oi := (Go.Oper.mk (some 28) (Go.Op.slice 50 (Go.Operand.tmp 17) none (some (Go.Operand.tmp 22)) (some (Go.Operand.tmp 27))) 50 _ #[Go.Edge.mk 4 Go.Ground.data, Go.Edge.mk 9 Go.Ground.data, Go.Edge.mk 14 Go.Ground.data] none)) (v := ?_) rfl (by kernel_rfl) (by kernel_rfl) (by kernel_rfl) (fun _ _ _ h => h) (Or.inl ⟨by rfl, ?_⟩) hHeld ?_
                  rotate_left
                  · intro w hSw; (try dsimp only at hSw); go_simp; (try with_reducible rfl)
                  simp only [Act.put, List.setIfInBounds_toArray, List.set_cons_zero, List.set_cons_succ]
                  refine wpAnyH_ready (rs := [18]) (by kernel_rfl) (by simp) ?_
                  refine (AllReadyH.cons (o := (Go.Oper.mk (some 31) (Go.Op.call (Go.Call.mk (Go.Callee.builtin Go.Builtin.append) #[Go.Operand.tmp 28, Go.Operand.tmp 30] #[50, 50])) 50 _ #[Go.Edge.mk 15 Go.Ground.data, Go.Edge.mk 17 Go.Ground.data] none)) rfl (fun K hK => ?_) AllReadyH.nil)
                  · skip
                    (refine step_append_grows rfl _ _ _ rfl 98 i0 _ 4 48 Try.underlying50 hi hz0 hz1 hz2 rfl (by omega) _ _ _ (S.opn.flatMap rcCells) rfl HO.out.2.2.1 HO.out.2.1 (HO.out.1 _ (HD.out _)) ⟨wn.heap.size, 0, none⟩ 1 1 [x0, x1, x2, x3] rfl rfl (World.news_of_block (cs := #[x0, x1, x2, x3]) (t := 98) (fr := (0, 0)) (heap_alloc_new wn _)) (by simp [o0, o1, o2, o3]) (by omega) hb1 hb2 ?_); intro v5 w5 hown5 hgrow5; have HG := grown_open hown5 hgrow5 (HD.out _) HO.out.2.2.2 hxl hblt HC3.out; obtain ⟨a5, n5, q5, rfl⟩ := HG.1; obtain ⟨HG1, c5, f5⟩ := HG.2; replace HG := Lib.hid HG1; clear HG1 hown5 hgrow5
                    refine hK.out _ _ ?_ (fun hHeld => ?_)
                    · exact HK.out _ HG.out.2
                    clear hK K
                    (try simp only [Act.put, List.setIfInBounds_toArray, List.set_cons_zero, List.set_cons_succ])
                    refine wpAnyH_take (i := 19) (oi := (Go.Oper.mk (some 32) (Go.Op.nilCheck (Go.Operand.tmp 13)) 0 _ #[Go.Edge.mk 0 Go.Ground.data, Go.Edge.mk 0 Go.Ground.phase, Go.Edge.mk 1 Go.Ground.phase, Go.Edge.mk 2 Go.Ground.phase, Go.Edge.mk 3 Go.Ground.phase, Go.Edge.mk 4 Go.Ground.phase, Go.Edge.mk 5 Go.Ground.phase, Go.Edge.mk 6 Go.Ground.phase, Go.Edge.mk 7 Go.Ground.phase, Go.Edge.mk 8 Go.Ground.phase, Go.Edge.mk 9 Go.Ground.phase, Go.Edge.mk 10 Go.Ground.phase, Go.Edge.mk 11 Go.Ground.phase, Go.Edge.mk 12 Go.Ground.phase, Go.Edge.mk 13 Go.Ground.phase, Go.Edge.mk 14 Go.Ground.phase, Go.Edge.mk 15 Go.Ground.phase, Go.Edge.mk 16 Go.Ground.phase, Go.Edge.mk 17 Go.Ground.phase, Go.Edge.mk 18 Go.Ground.phase] none)) (v := ?_) rfl (by kernel_rfl) (by kernel_rfl) (by kernel_rfl) (fun _ _ _ h => h) (Or.inl ⟨by rfl, ?_⟩) hHeld ?_
                    rotate_left
                    · intro w hSw; (try dsimp only at hSw); go_simp; (try with_reducible rfl)
                    simp only [Act.put, List.setIfInBounds_toArray, List.set_cons_zero, List.set_cons_succ]
                    refine wpAnyH_take (i := 20) (oi := (Go.Oper.mk (some 33) (Go.Op.fieldAddr 52 (Go.Operand.tmp 32) 3) 0 _ #[Go.Edge.mk 19 Go.Ground.data, Go.Edge.mk 0 Go.Ground.phase, Go.Edge.mk 1 Go.Ground.phase, Go.Edge.mk 2 Go.Ground.phase, Go.Edge.mk 3 Go.Ground.phase, Go.Edge.mk 4 Go.Ground.phase, Go.Edge.mk 5 Go.Ground.phase, Go.Edge.mk 6 Go.Ground.phase, Go.Edge.mk 7 Go.Ground.phase, Go.Edge.mk 8 Go.Ground.phase, Go.Edge.mk 9 Go.Ground.phase, Go.Edge.mk 10 Go.Ground.phase, Go.Edge.mk 11 Go.Ground.phase, Go.Edge.mk 12 Go.Ground.phase, Go.Edge.mk 13 Go.Ground.phase, Go.Edge.mk 14 Go.Ground.phase, Go.Edge.mk 15 Go.Ground.phase, Go.Edge.mk 16 Go.Ground.phase, Go.Edge.mk 17 Go.Ground.phase, Go.Edge.mk 18 Go.Ground.phase] none)) (v := ?_) rfl (by kernel_rfl) (by kernel_rfl) (by kernel_rfl) (fun _ _ _ h => h) (Or.inl ⟨by rfl, ?_⟩) hHeld ?_
                    rotate_left
                    · intro w hSw; (try dsimp only at hSw); go_simp; (try with_reducible rfl)
                    simp only [Act.put, List.setIfInBounds_toArray, List.set_cons_zero, List.set_cons_succ]
                    refine wpAnyH_ready (rs := [21]) (by kernel_rfl) (by simp) ?_
                    refine (AllReadyH.cons (o := (Go.Oper.mk none (Go.Op.store 50 (Go.Operand.tmp 33) (Go.Operand.tmp 31)) 0 _ #[Go.Edge.mk 20 Go.Ground.data, Go.Edge.mk 18 Go.Ground.data, Go.Edge.mk 18 Go.Ground.chain, Go.Edge.mk 0 Go.Ground.phase, Go.Edge.mk 1 Go.Ground.phase, Go.Edge.mk 2 Go.Ground.phase, Go.Edge.mk 3 Go.Ground.phase, Go.Edge.mk 4 Go.Ground.phase, Go.Edge.mk 5 Go.Ground.phase, Go.Edge.mk 6 Go.Ground.phase, Go.Edge.mk 7 Go.Ground.phase, Go.Edge.mk 8 Go.Ground.phase, Go.Edge.mk 9 Go.Ground.phase, Go.Edge.mk 10 Go.Ground.phase, Go.Edge.mk 11 Go.Ground.phase, Go.Edge.mk 12 Go.Ground.phase, Go.Edge.mk 13 Go.Ground.phase, Go.Edge.mk 14 Go.Ground.phase, Go.Edge.mk 15 Go.Ground.phase, Go.Edge.mk 16 Go.Ground.phase, Go.Edge.mk 17 Go.Ground.phase, Go.Edge.mk 18 Go.Ground.phase] none)) rfl (fun K hK => ?_) AllReadyH.nil)
                    · skip
                      go_simp
                      refine hK.out _ _ ?_ (fun hHeld => ?_)
                      · exact HY.out _ _ (HK.out _ HG.out.2)
                      clear hK K
                      (try simp only [Act.put, List.setIfInBounds_toArray, List.set_cons_zero, List.set_cons_succ])
                      refine wpAnyH_done (by kernel_rfl) ?_ _
                      go_wp2
                      go_end0
                      have P := HN.out.1.opned HG.out.1 HG.out.2
                      have hwr : Wr F w _ := ((HA.out.2.1.drewN 1).trans HN.out.2 (Grew.refl _ _)).trans P.2 (fun k hk => hk.imp id fun h => Nat.le_trans (Nat.le_of_lt hwz) h.1)
                      exact ⟨rfl, _, P.1.disk, fun k hk => by
                        rcases hk with (hk | hk) | hk
                        · exact .inl hk
                        · exact .inr (Nat.le_trans (Nat.le_of_lt hwz) hk.1)
                        · exact .inr (Nat.le_trans (Nat.le_of_lt HZ.out) hk.1), hwr⟩
              · skip
                go_simp
                refine hK.out _ _ ?_ (fun hHeld => ?_)
                · first | exact ⟨k0, k1, k2, k3⟩ | exact HK.out _ (Below.refl _ _).drew | exact HK.out _ (HD.out _)
                clear hK K
                (try simp only [Act.put, List.setIfInBounds_toArray, List.set_cons_zero, List.set_cons_succ])
                refine wpAnyH_take (i := 9) (oi := (Go.Oper.mk (some 22) (Go.Op.call (Go.Call.mk (Go.Callee.builtin Go.Builtin.len) #[Go.Operand.tmp 21] #[50])) 3 _ #[Go.Edge.mk 8 Go.Ground.data] none)) (v := ?_) rfl (by kernel_rfl) (by kernel_rfl) (by kernel_rfl) (fun _ _ _ h => h) (Or.inl ⟨by rfl, ?_⟩) hHeld ?_
                rotate_left
                · intro w hSw; (try dsimp only at hSw); go_simp; (try with_reducible rfl)
                simp only [Act.put, List.setIfInBounds_toArray, List.set_cons_zero, List.set_cons_succ]
                refine wpAnyH_ready (rs := [4]) (by kernel_rfl) (by simp) ?_
                refine (AllReadyH.cons (o := (Go.Oper.mk (some 17) (Go.Op.load 50 (Go.Operand.tmp 16)) 50 _ #[Go.Edge.mk 3 Go.Ground.data] none)) rfl (fun K hK => ?_) AllReadyH.nil)
                · skip
                  go_simp
                  refine hK.out _ _ ?_ (fun hHeld => ?_)
                  · first | exact ⟨k0, k1, k2, k3⟩ | exact HK.out _ (Below.refl _ _).drew | exact HK.out _ (HD.out _)
                  clear hK K
                  (try simp only [Act.put, List.setIfInBounds_toArray, List.set_cons_zero, List.set_cons_succ])
                  refine wpAnyH_take (i := 15) (oi := (Go.Oper.mk (some 28) (Go.Op.slice 50 (Go.Operand.tmp 17) none (some (Go.Operand.tmp 22)) (some (Go.Operand.tmp 27))) 50 _ #[Go.Edge.mk 4 Go.Ground.data, Go.Edge.mk 9 Go.Ground.data, Go.Edge.mk 14 Go.Ground.data] none)) (v := ?_) rfl (by kernel_rfl) (by kernel_rfl) (by kernel_rfl) (fun _ _ _ h => h) (Or.inl ⟨by rfl, ?_⟩) hHeld ?_
                  rotate_left
                  · intro w hSw; (try dsimp only at hSw); go_simp; (try with_reducible rfl)
                  simp only [Act.put, List.setIfInBounds_toArray, List.set_cons_zero, List.set_cons_succ]
                  refine wpAnyH_ready (rs := [18]) (by kernel_rfl) (by simp) ?_
                  refine (AllReadyH.cons (o := (Go.Oper.mk (some 31) (Go.Op.call (Go.Call.mk (Go.Callee.builtin Go.Builtin.append) #[Go.Operand.tmp 28, Go.Operand.tmp 30] #[50, 50])) 50 _ #[Go.Edge.mk 15 Go.Ground.data, Go.Edge.mk 17 Go.Ground.data] none)) rfl (fun K hK => ?_) AllReadyH.nil)
                  · skip
                    (refine step_append_grows rfl _ _ _ rfl 98 i0 _ 4 48 Try.underlying50 hi hz0 hz1 hz2 rfl (by omega) _ _ _ (S.opn.flatMap rcCells) rfl HO.out.2.2.1 HO.out.2.1 (HO.out.1 _ (HD.out _)) ⟨wn.heap.size, 0, none⟩ 1 1 [x0, x1, x2, x3] rfl rfl (World.news_of_block (cs := #[x0, x1, x2, x3]) (t := 98) (fr := (0, 0)) (heap_alloc_new wn _)) (by simp [o0, o1, o2, o3]) (by omega) hb1 hb2 ?_); intro v5 w5 hown5 hgrow5; have HG := grown_open hown5 hgrow5 (HD.out _) HO.out.2.2.2 hxl hblt HC3.out; obtain ⟨a5, n5, q5, rfl⟩ := HG.1; obtain ⟨HG1, c5, f5⟩ := HG.2; replace HG := Lib.hid HG1; clear HG1 hown5 hgrow5
                    refine hK.out _ _ ?_ (fun hHeld => ?_)
                    · exact HK.out _ HG.out.2
                    clear hK K
                    (try simp only [Act.put, List.setIfInBounds_toArray, List.set_cons_zero, List.set_cons_succ])
                    refine wpAnyH_take (i := 19) (oi := (Go.Oper.mk (some 32) (Go.Op.nilCheck (Go.Operand.tmp 13)) 0 _ #[Go.Edge.mk 0 Go.Ground.data, Go.Edge.mk 0 Go.Ground.phase, Go.Edge.mk 1 Go.Ground.phase, Go.Edge.mk 2 Go.Ground.phase, Go.Edge.mk 3 Go.Ground.phase, Go.Edge.mk 4 Go.Ground.phase, Go.Edge.mk 5 Go.Ground.phase, Go.Edge.mk 6 Go.Ground.phase, Go.Edge.mk 7 Go.Ground.phase, Go.Edge.mk 8 Go.Ground.phase, Go.Edge.mk 9 Go.Ground.phase, Go.Edge.mk 10 Go.Ground.phase, Go.Edge.mk 11 Go.Ground.phase, Go.Edge.mk 12 Go.Ground.phase, Go.Edge.mk 13 Go.Ground.phase, Go.Edge.mk 14 Go.Ground.phase, Go.Edge.mk 15 Go.Ground.phase, Go.Edge.mk 16 Go.Ground.phase, Go.Edge.mk 17 Go.Ground.phase, Go.Edge.mk 18 Go.Ground.phase] none)) (v := ?_) rfl (by kernel_rfl) (by kernel_rfl) (by kernel_rfl) (fun _ _ _ h => h) (Or.inl ⟨by rfl, ?_⟩) hHeld ?_
                    rotate_left
                    · intro w hSw; (try dsimp only at hSw); go_simp; (try with_reducible rfl)
                    simp only [Act.put, List.setIfInBounds_toArray, List.set_cons_zero, List.set_cons_succ]
                    refine wpAnyH_take (i := 20) (oi := (Go.Oper.mk (some 33) (Go.Op.fieldAddr 52 (Go.Operand.tmp 32) 3) 0 _ #[Go.Edge.mk 19 Go.Ground.data, Go.Edge.mk 0 Go.Ground.phase, Go.Edge.mk 1 Go.Ground.phase, Go.Edge.mk 2 Go.Ground.phase, Go.Edge.mk 3 Go.Ground.phase, Go.Edge.mk 4 Go.Ground.phase, Go.Edge.mk 5 Go.Ground.phase, Go.Edge.mk 6 Go.Ground.phase, Go.Edge.mk 7 Go.Ground.phase, Go.Edge.mk 8 Go.Ground.phase, Go.Edge.mk 9 Go.Ground.phase, Go.Edge.mk 10 Go.Ground.phase, Go.Edge.mk 11 Go.Ground.phase, Go.Edge.mk 12 Go.Ground.phase, Go.Edge.mk 13 Go.Ground.phase, Go.Edge.mk 14 Go.Ground.phase, Go.Edge.mk 15 Go.Ground.phase, Go.Edge.mk 16 Go.Ground.phase, Go.Edge.mk 17 Go.Ground.phase, Go.Edge.mk 18 Go.Ground.phase] none)) (v := ?_) rfl (by kernel_rfl) (by kernel_rfl) (by kernel_rfl) (fun _ _ _ h => h) (Or.inl ⟨by rfl, ?_⟩) hHeld ?_
                    rotate_left
                    · intro w hSw; (try dsimp only at hSw); go_simp; (try with_reducible rfl)
                    simp only [Act.put, List.setIfInBounds_toArray, List.set_cons_zero, List.set_cons_succ]
                    refine wpAnyH_ready (rs := [21]) (by kernel_rfl) (by simp) ?_
                    refine (AllReadyH.cons (o := (Go.Oper.mk none (Go.Op.store 50 (Go.Operand.tmp 33) (Go.Operand.tmp 31)) 0 _ #[Go.Edge.mk 20 Go.Ground.data, Go.Edge.mk 18 Go.Ground.data, Go.Edge.mk 18 Go.Ground.chain, Go.Edge.mk 0 Go.Ground.phase, Go.Edge.mk 1 Go.Ground.phase, Go.Edge.mk 2 Go.Ground.phase, Go.Edge.mk 3 Go.Ground.phase, Go.Edge.mk 4 Go.Ground.phase, Go.Edge.mk 5 Go.Ground.phase, Go.Edge.mk 6 Go.Ground.phase, Go.Edge.mk 7 Go.Ground.phase, Go.Edge.mk 8 Go.Ground.phase, Go.Edge.mk 9 Go.Ground.phase, Go.Edge.mk 10 Go.Ground.phase, Go.Edge.mk 11 Go.Ground.phase, Go.Edge.mk 12 Go.Ground.phase, Go.Edge.mk 13 Go.Ground.phase, Go.Edge.mk 14 Go.Ground.phase, Go.Edge.mk 15 Go.Ground.phase, Go.Edge.mk 16 Go.Ground.phase, Go.Edge.mk 17 Go.Ground.phase, Go.Edge.mk 18 Go.Ground.phase] none)) rfl (fun K hK => ?_) AllReadyH.nil)
                    · skip
                      go_simp
                      refine hK.out _ _ ?_ (fun hHeld => ?_)
                      · exact HY.out _ _ (HK.out _ HG.out.2)
                      clear hK K
                      (try simp only [Act.put, List.setIfInBounds_toArray, List.set_cons_zero, List.set_cons_succ])
                      refine wpAnyH_done (by kernel_rfl) ?_ _
                      go_wp2
                      go_end0
                      have P := HN.out.1.opned HG.out.1 HG.out.2
                      have hwr : Wr F w _ := ((HA.out.2.1.drewN 1).trans HN.out.2 (Grew.refl _ _)).trans P.2 (fun k hk => hk.imp id fun h => Nat.le_trans (Nat.le_of_lt hwz) h.1)
                      exact ⟨rfl, _, P.1.disk, fun k hk => by
                        rcases hk with (hk | hk) | hk
                        · exact .inl hk
                        · exact .inr (Nat.le_trans (Nat.le_of_lt hwz) hk.1)
                        · exact .inr (Nat.le_trans (Nat.le_of_lt HZ.out) hk.1), hwr⟩
theorem refTurn_any {w : World} {b N : Nat} {F : Nat → Prop} {S : Dk} (h : RDisk w b F S) (hg : Pl.Good N S.names) (hN : N ≤ 4194304) {c : Ch} (hc : 1 ≤ c.kind ∧ c.kind ≤ 3) (ho : S.opn.length ≤ 4194304) :
    Calls Try.prog 57 #[.pointer (some ⟨b, 0, none⟩), .agg (rcCells c).toArray] w (ROpEnd b F (S.turn c) (.tuple #[]) w) := by
  obtain ⟨fv, nv, lv, ov, pv, h⟩ := h
  obtain ⟨oa, oc, rfl⟩ := h.opn.shape
  rcases rowc_cells h.opn.1 with ⟨rfl, -, rfl⟩ | ⟨g, rfl, -⟩
  · exact refTurn_nil h hg hN hc ho
  · exact refTurn_some h hg hN hc ho
end Go.Proofs.Ytbjlffhnkcbnmaa
