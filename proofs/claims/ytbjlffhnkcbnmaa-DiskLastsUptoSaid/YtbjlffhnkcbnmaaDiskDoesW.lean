/- The walk of DiskDoes. -/
import Derived.Test.YtbjlffhnkcbnmaaLike
namespace Go.Proofs.Ytbjlffhnkcbnmaa
open Go.ChangeShapes Go.WideShapes Go.ChangeAt Go.RowKit Go.Maps Pl
set_option linter.unusedVariables false
set_option linter.unusedSimpArgs false

def rNew : Obj := .cells #[.slice none 0 0, .slice none 0 0, .slice none 0 0, .slice none 0 0, .slice none 0 0, .int .i64 0, .bool false] 52
theorem rdisk_new (w : World) : RDisk (w.alloc rNew) w.heap.size (fun k => k = w.heap.size) Dk.new :=
  ⟨_, _, _, _, _, { lt := fun k hk => by rw [hk]; simp, own := rfl, block := heap_alloc_new w _, files := RowC.nil _ _ _ _, names := RowC.nil _ _ _ _, last := RowC.nil _ _ _ _, opn := RowC.nil _ _ _ _, plan := PRow.nil _ _ }⟩
theorem duo_new {w w2 : World} {b : Nat} {F : Nat → Prop} (d : Dsk w2 b F Dk.new) (hF : ∀ k, F k → w.heap.size ≤ k) (hb : Below w.heap.size w w2) : Duo (fun _ => False) w (w2.alloc rNew) b w2.heap.size Dk.new Dk.new :=
  ⟨⟨F, _, d.kept (G := fun _ => False) ((Wr.refl _ _).alloc _) (fun _ _ h => h), rdisk_new w2, fun k hk e => by have := d.lt k hk; omega, fun k hk => .inr (by rcases hk with hk | hk; exact hF k hk; rw [hk]; exact hb.size)⟩, (Wr.of_below hb).alloc _⟩
set_option maxRecDepth 100000 in
set_option maxHeartbeats 6400000 in
theorem diskDoes_walk (v : Value) (ds : List Dd) (hds : ∀ a ∈ ds, a.Ok) (hdl : ds.length ≤ 1048576) (w : World) (hv : DdRow w (fun g => g < w.heap.size) v ds) :
    Calls Try.prog 5 #[v] w fun e w' => e = .returned (.bool true) ∧ Below w.heap.size w w' := by
  obtain ⟨va, vc, rfl⟩ := hv.shape
  have HV := Lib.hid hv
  have HDS := Lib.hid hds
  clear hv hds
  go_enter Try.func5, Try.ntmps5
  go_wp2_with fail
  ((refine Calls.mono (new_any w) ?_); rintro e w2 ⟨b, F, rfl, d2, hF2, b2⟩)
  have HD3 := Lib.hid (duo_new d2 hF2 b2)
  clear d2 hF2 b2
  go_wp2_with fail
  have hg3 : w2.alloc rNew = w2.alloc (.cells #[.slice none 0 0, .slice none 0 0, .slice none 0 0, .slice none 0 0, .slice none 0 0, .int .i64 0, .bool false] 52) := rfl
  rw [← hg3]
  obtain ⟨c, hc⟩ : ∃ c, c = w2.heap.size := ⟨_, rfl⟩
  rw [← hc] at HD3 ⊢
  obtain ⟨w3, hw3⟩ : ∃ w3, w3 = w2.alloc rNew := ⟨_, rfl⟩
  rw [← hw3] at HD3 ⊢
  clear hg3 hw3 hc
  ((refine Calls.mono (awake_any w3) ?_); rintro e w4 ⟨rfl, b4⟩)
  have HD4 := Lib.hid (HD3.out.below b4)
  clear b4
  go_wp2_with fail
  go_loopw [5] (fun i wr => ∃ (q : Nat) (S : Dk), q ≤ ds.length ∧ i = .int .i64 q ∧ Hid (Duo (fun _ => False) w wr b c S S) ∧ Hid S.Inv ∧ Hid (S.Small q)) (fun i _ => ds.length - (intOf i).toNat)
  case atStart => exact ⟨0, Dk.new, Nat.zero_le _, rfl, HD4.out, Dk.Inv.new, Dk.Small.new⟩
  case round =>
    obtain ⟨q, S, hq, rfl, hd, hI, hS⟩ := hrel
    by_cases hql : q < ds.length
    · obtain ⟨a, ha⟩ : ∃ a, ds[q]? = some a := ⟨_, List.getElem?_eq_getElem hql⟩
      have haO := HDS.out a (List.mem_of_getElem? ha)
      obtain ⟨g, off, fv, bv, rfl, -, hg, c0, c1, c2, c3, c4, c5, c6, hqr, hir⟩ := HV.out.at_ ha
      have hqI : (q : Int) < (ds.length : Int) := by omega
      have hq0 : (0 : Int) ≤ (q : Int) := by omega
      have HC := Lib.hid (show ∀ W, Wr (fun _ => False) w W → W.cell? ⟨g, off + q * 7, none⟩ = some (.int .i64 a.kind) ∧ W.cell? ⟨g, off + q * 7 + 1, none⟩ = some (.string (str a.A)) ∧ W.cell? ⟨g, off + q * 7 + 2, none⟩ = some (.string (str a.B)) ∧ W.cell? ⟨g, off + q * 7 + 3, none⟩ = some (.int .i64 a.n) ∧ W.cell? ⟨g, off + q * 7 + 4, none⟩ = some fv ∧ W.cell? ⟨g, off + q * 7 + 5, none⟩ = some (.int .i64 a.k) ∧ W.cell? ⟨g, off + q * 7 + 6, none⟩ = some bv from fun W hW => by
        have hcell : ∀ o, W.cell? ⟨g, o, none⟩ = w.cell? ⟨g, o, none⟩ := fun o => World.cell?_of_block (hW.block g hg (fun h => h))
        exact ⟨(hcell _).trans c0, (hcell _).trans c1, (hcell _).trans c2, (hcell _).trans c3, (hcell _).trans c4, (hcell _).trans c5, (hcell _).trans c6⟩)
      have HDo := Lib.hid (deed_any hd.out.drew hI.out hS.out (by omega) a haO (.agg #[.int .i64 a.kind, .string (str a.A), .string (str a.B), .int .i64 a.n, fv, .int .i64 a.k, bv]) ⟨fv, bv, rfl, hqr.kept hd.out.drew.2 (fun _ _ h => h), hir.kept hd.out.drew.2 (fun _ _ h => h)⟩ (K := fun g => g < w.heap.size) (fun k hk hh => hh.elim id (fun h => by omega)))
      obtain ⟨T, hT⟩ : ∃ T, doS S a = T := ⟨_, rfl⟩
      have HTI := Lib.hid (show T.Inv from by rw [← hT]; exact doS_inv hI.out a)
      have HTS := Lib.hid (show T.Small (q + 1) from by rw [← hT]; exact doS_small hS.out haO)
      rw [hT] at HDo
      have hns := Lib.hid (show ∀ n ∈ [a.A, a.B], n.length ≤ 1048576 from by
        intro n hn
        simp only [List.mem_cons, List.not_mem_nil, or_false] at hn
        rcases hn with rfl | rfl
        · exact haO.1
        · exact haO.2.1)
      clear ha hT c0 c1 c2 c3 c4 c5 c6 hqr hir
      go_wp2_with fail
      refine wp_region_held_drew (S := (fun W => W.cell? ⟨g, off + q * 7, none⟩ = some (.int .i64 a.kind) ∧ W.cell? ⟨g, off + q * 7 + 1, none⟩ = some (.string (str a.A)) ∧ W.cell? ⟨g, off + q * 7 + 2, none⟩ = some (.string (str a.B)) ∧ W.cell? ⟨g, off + q * 7 + 3, none⟩ = some (.int .i64 a.n) ∧ W.cell? ⟨g, off + q * 7 + 4, none⟩ = some fv ∧ W.cell? ⟨g, off + q * 7 + 5, none⟩ = some (.int .i64 a.k) ∧ W.cell? ⟨g, off + q * 7 + 6, none⟩ = some bv)) (by kernel_rfl) ?_ (fun hHeld => ?_)
      · exact HC.out _ hd.out.drew.2
      refine wpAnyH_take (i := 0) (oi := (Go.Oper.mk (some 21) (Go.Op.move (Go.Operand.tmp 3)) 28 _ #[] none)) (v := ?_) rfl (by kernel_rfl) (by kernel_rfl) (by kernel_rfl) (fun _ _ _ h => h) (Or.inl ⟨by rfl, ?_⟩) hHeld ?_
      rotate_left
      · intro w hSw; (try dsimp only at hSw); go_simp; (try with_reducible rfl)
      simp only [Act.put, List.setIfInBounds_toArray, List.set_cons_zero, List.set_cons_succ]
      refine wpAnyH_take (i := 1) (oi := (Go.Oper.mk (some 22) (Go.Op.move (Go.Operand.tmp 4)) 47 _ #[] none)) (v := ?_) rfl (by kernel_rfl) (by kernel_rfl) (by kernel_rfl) (fun _ _ _ h => h) (Or.inl ⟨by rfl, ?_⟩) hHeld ?_
      rotate_left
      · intro w hSw; (try dsimp only at hSw); go_simp; (try with_reducible rfl)
      simp only [Act.put, List.setIfInBounds_toArray, List.set_cons_zero, List.set_cons_succ]
      refine wpAnyH_take (i := 2) (oi := (Go.Oper.mk (some 23) (Go.Op.move (Go.Operand.tmp 0)) 27 _ #[] none)) (v := ?_) rfl (by kernel_rfl) (by kernel_rfl) (by kernel_rfl) (fun _ _ _ h => h) (Or.inl ⟨by rfl, ?_⟩) hHeld ?_
      rotate_left
      · intro w hSw; (try dsimp only at hSw); go_simp; (try with_reducible rfl)
      simp only [Act.put, List.setIfInBounds_toArray, List.set_cons_zero, List.set_cons_succ]
      refine wpAnyH_take (i := 3) (oi := (Go.Oper.mk (some 24) (Go.Op.move (Go.Operand.tmp 5)) 3 _ #[] none)) (v := ?_) rfl (by kernel_rfl) (by kernel_rfl) (by kernel_rfl) (fun _ _ _ h => h) (Or.inl ⟨by rfl, ?_⟩) hHeld ?_
      rotate_left
      · intro w hSw; (try dsimp only at hSw); go_simp; (try with_reducible rfl)
      simp only [Act.put, List.setIfInBounds_toArray, List.set_cons_zero, List.set_cons_succ]
      refine wpAnyH_take (i := 4) (oi := (Go.Oper.mk (some 25) (Go.Op.indexAddr 27 (Go.Operand.tmp 23) (Go.Operand.tmp 24)) 0 _ #[Go.Edge.mk 2 Go.Ground.data, Go.Edge.mk 3 Go.Ground.data] none)) (v := ?_) rfl (by kernel_rfl) (by kernel_rfl) (by kernel_rfl) (fun _ _ _ h => h) (Or.inl ⟨by rfl, ?_⟩) hHeld ?_
      rotate_left
      · intro w hSw; (try dsimp only at hSw); go_simp; (try with_reducible rfl)
      simp only [Act.put, List.setIfInBounds_toArray, List.set_cons_zero, List.set_cons_succ]
      refine wpAnyH_take (i := 5) (oi := (Go.Oper.mk (some 26) (Go.Op.load 42 (Go.Operand.tmp 25)) 42 _ #[Go.Edge.mk 4 Go.Ground.data] none)) (v := ?_) rfl (by kernel_rfl) (by kernel_rfl) (by kernel_rfl) (fun _ _ _ h => h) (Or.inl ⟨by rfl, ?_⟩) hHeld ?_
      rotate_left
      · intro w hSw; (try dsimp only at hSw); go_simp; (try with_reducible rfl)
      simp only [Act.put, List.setIfInBounds_toArray, List.set_cons_zero, List.set_cons_succ]
      refine wpAnyH_ready (rs := [6]) (by kernel_rfl) (by simp) ?_
      refine (AllReadyH.cons (o := (Go.Oper.mk (some 27) (Go.Op.call (Go.Call.mk (Go.Callee.value (Go.Operand.func 20)) #[Go.Operand.tmp 21, Go.Operand.tmp 22, Go.Operand.tmp 26] #[28, 47, 42])) 4 _ #[Go.Edge.mk 0 Go.Ground.data, Go.Edge.mk 1 Go.Ground.data, Go.Edge.mk 5 Go.Ground.data] none)) rfl (fun K hK => ?_) AllReadyH.nil)
      · skip
        go_simp
        ((refine Calls.mono HDo.out ?_); rintro e w5 ⟨rfl, hd5⟩; have HD5 := Lib.hid hd5; clear hd5)
        go_wp2_with fail
        refine hK.out _ _ ?_ (fun hHeld => ?_)
        · exact HC.out _ HD5.out.2
        clear hK K
        (try simp only [Act.put, List.setIfInBounds_toArray, List.set_cons_zero, List.set_cons_succ])
        refine wpAnyH_take (i := 7) (oi := (Go.Oper.mk (some 28) (Go.Op.unOp Go.UnOp.not 4 (Go.Operand.tmp 27)) 4 _ #[Go.Edge.mk 6 Go.Ground.data] none)) (v := ?_) rfl (by kernel_rfl) (by kernel_rfl) (by kernel_rfl) (fun _ _ _ h => h) (Or.inl ⟨by rfl, ?_⟩) hHeld ?_
        rotate_left
        · intro w hSw; (try dsimp only at hSw); go_simp; (try with_reducible rfl)
        simp only [Act.put, List.setIfInBounds_toArray, List.set_cons_zero, List.set_cons_succ]
        refine wpAnyH_take (i := 8) (oi := (Go.Oper.mk (some 29) (Go.Op.move (Go.Operand.tmp 28)) 4 _ #[Go.Edge.mk 7 Go.Ground.data, Go.Edge.mk 6 Go.Ground.chain] none)) (v := ?_) rfl (by kernel_rfl) (by kernel_rfl) (by kernel_rfl) (fun _ _ _ h => h) (Or.inl ⟨by rfl, ?_⟩) hHeld ?_
        rotate_left
        · intro w hSw; (try dsimp only at hSw); go_simp; (try with_reducible rfl)
        simp only [Act.put, List.setIfInBounds_toArray, List.set_cons_zero, List.set_cons_succ]
        refine wpAnyH_take (i := 9) (oi := (Go.Oper.mk (some 30) (Go.Op.move (Go.Operand.tmp 3)) 28 _ #[Go.Edge.mk 8 Go.Ground.guard] (some (8, false)))) (v := ?_) rfl (by kernel_rfl) (by kernel_rfl) (by kernel_rfl) (fun _ _ _ h => h) (Or.inl ⟨by rfl, ?_⟩) hHeld ?_
        rotate_left
        · intro w hSw; (try dsimp only at hSw); go_simp; (try with_reducible rfl)
        simp only [Act.put, List.setIfInBounds_toArray, List.set_cons_zero, List.set_cons_succ]
        refine wpAnyH_take (i := 10) (oi := (Go.Oper.mk (some 31) (Go.Op.move (Go.Operand.tmp 4)) 47 _ #[Go.Edge.mk 8 Go.Ground.guard] (some (8, false)))) (v := ?_) rfl (by kernel_rfl) (by kernel_rfl) (by kernel_rfl) (fun _ _ _ h => h) (Or.inl ⟨by rfl, ?_⟩) hHeld ?_
        rotate_left
        · intro w hSw; (try dsimp only at hSw); go_simp; (try with_reducible rfl)
        simp only [Act.put, List.setIfInBounds_toArray, List.set_cons_zero, List.set_cons_succ]
        refine wpAnyH_take (i := 11) (oi := (Go.Oper.mk (some 32) (Go.Op.move (Go.Operand.tmp 0)) 27 _ #[Go.Edge.mk 8 Go.Ground.guard] (some (8, false)))) (v := ?_) rfl (by kernel_rfl) (by kernel_rfl) (by kernel_rfl) (fun _ _ _ h => h) (Or.inl ⟨by rfl, ?_⟩) hHeld ?_
        rotate_left
        · intro w hSw; (try dsimp only at hSw); go_simp; (try with_reducible rfl)
        simp only [Act.put, List.setIfInBounds_toArray, List.set_cons_zero, List.set_cons_succ]
        refine wpAnyH_take (i := 12) (oi := (Go.Oper.mk (some 33) (Go.Op.move (Go.Operand.tmp 5)) 3 _ #[Go.Edge.mk 8 Go.Ground.guard] (some (8, false)))) (v := ?_) rfl (by kernel_rfl) (by kernel_rfl) (by kernel_rfl) (fun _ _ _ h => h) (Or.inl ⟨by rfl, ?_⟩) hHeld ?_
        rotate_left
        · intro w hSw; (try dsimp only at hSw); go_simp; (try with_reducible rfl)
        simp only [Act.put, List.setIfInBounds_toArray, List.set_cons_zero, List.set_cons_succ]
        refine wpAnyH_take (i := 13) (oi := (Go.Oper.mk (some 34) (Go.Op.indexAddr 27 (Go.Operand.tmp 32) (Go.Operand.tmp 33)) 0 _ #[Go.Edge.mk 11 Go.Ground.data, Go.Edge.mk 12 Go.Ground.data, Go.Edge.mk 8 Go.Ground.guard] (some (8, false)))) (v := ?_) rfl (by kernel_rfl) (by kernel_rfl) (by kernel_rfl) (fun _ _ _ h => h) (Or.inl ⟨by rfl, ?_⟩) hHeld ?_
        rotate_left
        · intro w hSw; (try dsimp only at hSw); go_simp; (try with_reducible rfl)
        simp only [Act.put, List.setIfInBounds_toArray, List.set_cons_zero, List.set_cons_succ]
        refine wpAnyH_take (i := 14) (oi := (Go.Oper.mk (some 35) (Go.Op.fieldAddr 42 (Go.Operand.tmp 34) 1) 0 _ #[Go.Edge.mk 13 Go.Ground.data, Go.Edge.mk 8 Go.Ground.guard] (some (8, false)))) (v := ?_) rfl (by kernel_rfl) (by kernel_rfl) (by kernel_rfl) (fun _ _ _ h => h) (Or.inl ⟨by rfl, ?_⟩) hHeld ?_
        rotate_left
        · intro w hSw; (try dsimp only at hSw); go_simp; (try with_reducible rfl)
        simp only [Act.put, List.setIfInBounds_toArray, List.set_cons_zero, List.set_cons_succ]
        refine wpAnyH_take (i := 15) (oi := (Go.Oper.mk (some 36) (Go.Op.load 9 (Go.Operand.tmp 35)) 9 _ #[Go.Edge.mk 14 Go.Ground.data, Go.Edge.mk 8 Go.Ground.guard] (some (8, false)))) (v := ?_) rfl (by kernel_rfl) (by kernel_rfl) (by kernel_rfl) (fun _ _ _ h => h) (Or.inl ⟨by rfl, ?_⟩) hHeld ?_
        rotate_left
        · intro w hSw; (try dsimp only at hSw); go_simp; (try with_reducible rfl)
        simp only [Act.put, List.setIfInBounds_toArray, List.set_cons_zero, List.set_cons_succ]
        refine wpAnyH_take (i := 16) (oi := (Go.Oper.mk (some 37) (Go.Op.move (Go.Operand.tmp 0)) 27 _ #[Go.Edge.mk 8 Go.Ground.guard] (some (8, false)))) (v := ?_) rfl (by kernel_rfl) (by kernel_rfl) (by kernel_rfl) (fun _ _ _ h => h) (Or.inl ⟨by rfl, ?_⟩) hHeld ?_
        rotate_left
        · intro w hSw; (try dsimp only at hSw); go_simp; (try with_reducible rfl)
        simp only [Act.put, List.setIfInBounds_toArray, List.set_cons_zero, List.set_cons_succ]
        refine wpAnyH_take (i := 17) (oi := (Go.Oper.mk (some 38) (Go.Op.move (Go.Operand.tmp 5)) 3 _ #[Go.Edge.mk 8 Go.Ground.guard] (some (8, false)))) (v := ?_) rfl (by kernel_rfl) (by kernel_rfl) (by kernel_rfl) (fun _ _ _ h => h) (Or.inl ⟨by rfl, ?_⟩) hHeld ?_
        rotate_left
        · intro w hSw; (try dsimp only at hSw); go_simp; (try with_reducible rfl)
        simp only [Act.put, List.setIfInBounds_toArray, List.set_cons_zero, List.set_cons_succ]
        refine wpAnyH_take (i := 18) (oi := (Go.Oper.mk (some 39) (Go.Op.indexAddr 27 (Go.Operand.tmp 37) (Go.Operand.tmp 38)) 0 _ #[Go.Edge.mk 16 Go.Ground.data, Go.Edge.mk 17 Go.Ground.data, Go.Edge.mk 8 Go.Ground.guard] (some (8, false)))) (v := ?_) rfl (by kernel_rfl) (by kernel_rfl) (by kernel_rfl) (fun _ _ _ h => h) (Or.inl ⟨by rfl, ?_⟩) hHeld ?_
        rotate_left
        · intro w hSw; (try dsimp only at hSw); go_simp; (try with_reducible rfl)
        simp only [Act.put, List.setIfInBounds_toArray, List.set_cons_zero, List.set_cons_succ]
        refine wpAnyH_take (i := 19) (oi := (Go.Oper.mk (some 40) (Go.Op.fieldAddr 42 (Go.Operand.tmp 39) 2) 0 _ #[Go.Edge.mk 18 Go.Ground.data, Go.Edge.mk 8 Go.Ground.guard] (some (8, false)))) (v := ?_) rfl (by kernel_rfl) (by kernel_rfl) (by kernel_rfl) (fun _ _ _ h => h) (Or.inl ⟨by rfl, ?_⟩) hHeld ?_
        rotate_left
        · intro w hSw; (try dsimp only at hSw); go_simp; (try with_reducible rfl)
        simp only [Act.put, List.setIfInBounds_toArray, List.set_cons_zero, List.set_cons_succ]
        refine wpAnyH_take (i := 20) (oi := (Go.Oper.mk (some 41) (Go.Op.load 9 (Go.Operand.tmp 40)) 9 _ #[Go.Edge.mk 19 Go.Ground.data, Go.Edge.mk 8 Go.Ground.guard] (some (8, false)))) (v := ?_) rfl (by kernel_rfl) (by kernel_rfl) (by kernel_rfl) (fun _ _ _ h => h) (Or.inl ⟨by rfl, ?_⟩) hHeld ?_
        rotate_left
        · intro w hSw; (try dsimp only at hSw); go_simp; (try with_reducible rfl)
        simp only [Act.put, List.setIfInBounds_toArray, List.set_cons_zero, List.set_cons_succ]
        refine wpAnyH_ready (rs := [21]) (by kernel_rfl) (by simp) ?_
        refine (AllReadyH.cons (o := (Go.Oper.mk (some 42) (Go.Op.buildSlice 33 2 #[(0, Go.Operand.tmp 36), (1, Go.Operand.tmp 41)]) 33 _ #[Go.Edge.mk 15 Go.Ground.data, Go.Edge.mk 20 Go.Ground.data, Go.Edge.mk 8 Go.Ground.guard] (some (8, false)))) rfl (fun K hK => ?_) AllReadyH.nil)
        · skip
          go_simp
          refine hK.out _ _ ?_ (fun hHeld => ?_)
          · exact HC.out _ (HD5.out.alloc _).2
          clear hK K
          (try simp only [Act.put, List.setIfInBounds_toArray, List.set_cons_zero, List.set_cons_succ])
          refine wpAnyH_ready (rs := [22]) (by kernel_rfl) (by simp) ?_
          refine (AllReadyH.cons (o := (Go.Oper.mk (some 43) (Go.Op.call (Go.Call.mk (Go.Callee.value (Go.Operand.func 21)) #[Go.Operand.tmp 30, Go.Operand.tmp 31, Go.Operand.tmp 42] #[28, 47, 33])) 4 _ #[Go.Edge.mk 9 Go.Ground.data, Go.Edge.mk 10 Go.Ground.data, Go.Edge.mk 21 Go.Ground.data, Go.Edge.mk 8 Go.Ground.chain, Go.Edge.mk 8 Go.Ground.guard] (some (8, false)))) rfl (fun K hK => ?_) AllReadyH.nil)
          · skip
            go_simp
            ((refine Calls.mono (like_any (HD5.out.alloc _) HTI.out HTS.out (by omega) [a.A, a.B] hns.out (by simp) _ (show SRow _ _ _ from srow_laid (heap_alloc_new w5 _) rfl)) ?_); rintro e w6 ⟨rfl, hd6⟩; have HD6 := Lib.hid hd6; clear hd6)
            go_wp2_with fail
            refine hK.out _ _ ?_ (fun hHeld => ?_)
            · exact HC.out _ HD6.out.2
            clear hK K
            (try simp only [Act.put, List.setIfInBounds_toArray, List.set_cons_zero, List.set_cons_succ])
            refine wpAnyH_take (i := 23) (oi := (Go.Oper.mk (some 44) (Go.Op.unOp Go.UnOp.not 4 (Go.Operand.tmp 43)) 4 _ #[Go.Edge.mk 22 Go.Ground.data, Go.Edge.mk 8 Go.Ground.guard] (some (8, false)))) (v := ?_) rfl (by kernel_rfl) (by kernel_rfl) (by kernel_rfl) (fun _ _ _ h => h) (Or.inl ⟨by rfl, ?_⟩) hHeld ?_
            rotate_left
            · intro w hSw; (try dsimp only at hSw); go_simp; (try with_reducible rfl)
            simp only [Act.put, List.setIfInBounds_toArray, List.set_cons_zero, List.set_cons_succ]
            refine wpAnyH_take (i := 24) (oi := (Go.Oper.mk (some 45) (Go.Op.pick (Go.Operand.tmp 29) (Go.Operand.const (Go.Value.bool true)) (Go.Operand.tmp 44)) 4 _ #[Go.Edge.mk 8 Go.Ground.data, Go.Edge.mk 23 Go.Ground.data] none)) (v := ?_) rfl (by kernel_rfl) (by kernel_rfl) (by kernel_rfl) (fun _ _ _ h => h) (Or.inl ⟨by rfl, ?_⟩) hHeld ?_
            rotate_left
            · intro w hSw; (try dsimp only at hSw); go_simp; (try with_reducible rfl)
            simp only [Act.put, List.setIfInBounds_toArray, List.set_cons_zero, List.set_cons_succ]
            refine wpAnyH_done (by kernel_rfl) ?_ _
            go_wp2
            go_roundw
            case rel => exact ⟨q + 1, T, by omega, by go_num, HD6.out, HTI.out, HTS.out⟩
            case measure => simp [intOf]; omega
    · obtain rfl : q = ds.length := by omega
      go_wp2
      go_ret
      exact ⟨rfl, hd.out.2.below (fun _ h => h.elim) (Nat.le_refl _)⟩
end Go.Proofs.Ytbjlffhnkcbnmaa
