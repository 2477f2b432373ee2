/- The walk of RespFeeds. -/
import Derived.Test.YtpngmbdchceikaaDoorRFeed
import Derived.Test.YtpngmbdchceikaaDoorRespBeginsW
import Derived.Test.YtpngmbdchceikaaDoorStrs
namespace Go.Proofs.YtpngmbdchceikaaDoor
open Go.ChangeShapes Go.WideShapes Go.ChangeAt Go.RowKit
open Pl (R Rd)
set_option linter.unusedVariables false

theorem step_left (st : Option (List UInt8)) (s : List UInt8) : ((Pl.step st s).2.getD []).length ≤ (st.getD []).length + s.length := by
  cases st with
  | none => simp [Pl.step]
  | some h =>
    simp only [Pl.step, Option.getD]
    cases hx : (Pl.fed (h ++ s)).2 with
    | none => simp
    | some u =>
      have := (Pl.fed_left _ (h ++ s) (Nat.lt_succ_self _) u hx).2
      simpa using this
theorem step_count (st : Option (List UInt8)) (s : List UInt8) : (Pl.step st s).1.length ≤ (st.getD []).length + s.length := by
  cases st with
  | none => simp [Pl.step]
  | some h =>
    have := Pl.fed_count _ (h ++ s) (Nat.lt_succ_self _)
    simpa [Pl.step] using this
theorem SRow.at {w : World} {ao : Option Addr} {n cp : Nat} {bs : List ByteArray} (h : SRow w (.slice ao n cp) bs) {j : Nat} (hj : j < bs.length) : ∃ g off x, ao = some ⟨g, off, none⟩ ∧ bs[j]? = some x ∧ w.cell? ⟨g, off + j, none⟩ = some (.string x) := by
  obtain ⟨ao', cp', e, h⟩ := h
  obtain ⟨rfl, rfl, rfl⟩ : ao = ao' ∧ n = bs.length ∧ cp = cp' := by simpa using e
  rcases h with rfl | ⟨g, off, rfl, hg, hc⟩
  · simp at hj
  · exact ⟨g, off, bs[j], rfl, List.getElem?_eq_getElem hj, hc j _ (List.getElem?_eq_getElem hj)⟩
theorem bulkS_take {bs : List ByteArray} {j : Nat} {x : ByteArray} (h : bs[j]? = some x) : bulkS (bs.take (j + 1)) = bulkS (bs.take j) + (x.size + 1) := by
  have : bs.take (j + 1) = bs.take j ++ [x] := by rw [List.take_add_one, h]; rfl
  rw [this, bulkS_append]; simp [bulkS]
theorem bulkS_le (bs : List ByteArray) (j : Nat) : bulkS (bs.take j) ≤ bulkS bs := by
  conv => rhs; rw [← List.take_append_drop j bs]
  rw [bulkS_append]; omega
set_option maxRecDepth 100000 in
set_option maxHeartbeats 6400000 in
theorem respFeeds_walk (lv : Value) (bs : List ByteArray) (hbs : bulkS bs ≤ 1048576) (w : World) (hs : SRow w lv bs) (hE : Env w) :
    Calls Tryd.prog 7 #[lv] w fun e w' => e = .returned (.bool true) ∧ Below w.heap.size w w' := by
  obtain ⟨ao, cp, rfl⟩ : ∃ ao cp, lv = .slice ao bs.length cp := by obtain ⟨ao, cp, e, -⟩ := hs; exact ⟨ao, cp, e⟩
  have HA := Lib.hid (fun W (h : Env W) => awake_any W h)
  have HNw := Lib.hid (fun W => new_any W)
  have HS := Lib.hid hs
  have HE := Lib.hid hE
  have hbl := bulkS_length bs
  clear hE hs
  go_enter Tryd.func7, Tryd.ntmps7
  go_wp2_with fail
  ((with_reducible refine (HNw.out _).mono ?_); rintro e w1 ⟨rfl, hD1, b1, hs1⟩)
  have hb2 : Below w1.heap.size w1 (w1.alloc (.cells #[.string ⟨#[]⟩, .bool false] 46)) := (Below.refl _ _).alloc (Nat.le_refl _) _
  have B2 := Lib.hid (b1.trans (hb2.mono b1.size))
  have D2 := Lib.hid (hD1.later hb2)
  have X2 := Lib.hid (show RDecIs (w1.alloc (.cells #[.string ⟨#[]⟩, .bool false] 46)) w1.heap.size (some []) from heap_alloc_new w1 _)
  obtain ⟨g, hg⟩ : ∃ g, w.heap.size = g := ⟨_, rfl⟩
  obtain ⟨x, hx⟩ : ∃ x, w1.heap.size = x := ⟨_, rfl⟩
  have hgx : g ≠ x := by omega
  have hvx : g + 1 ≠ x := by omega
  have hxg : x ≠ g := by omega
  rw [hg] at D2
  rw [hx] at X2
  have hwg : w.heap.size ≤ g := by omega
  have hwx : w.heap.size ≤ x := by omega
  clear b1 hb2 hD1 hs1
  go_wp2_with fail
  ((with_reducible refine (HA.out _ (HE.out.kept B2.out)).mono ?_); rintro e w3 ⟨rfl, b3⟩)
  have B3 := Lib.hid (B2.out.trans (b3.mono B2.out.size))
  have D3 := Lib.hid (D2.out.later b3)
  have X3 := Lib.hid (show RDecIs w3 x (some []) from X2.out.later b3)
  clear b3 hx
  go_wp2_with fail
  go_loopw [5] (fun i wr => ∃ (j : Nat) (st : Option (List UInt8)), i = .int .i64 j ∧ j ≤ bs.length ∧ (st.getD []).length ≤ bulkS (bs.take j) ∧ Hid (DecIs wr g (g + 1) st) ∧ Hid (RDecIs wr x st) ∧ Hid (Below w.heap.size w wr)) (fun i _ => bs.length - (intOf i).toNat)
  case atStart => exact ⟨0, some [], rfl, Nat.zero_le _, by simp, D3.out, X3.out, B3.out⟩
  case round =>
    obtain ⟨j, st, rfl, hj, hst, HD, HX, HB⟩ := hrel
    by_cases hlt : j < bs.length
    · have hsr := HS.out.kept HB.out
      obtain ⟨gl, off, S, rfl, hSj, k0⟩ := hsr.at hlt
      have hSt := bulkS_take hSj
      have hSl := bulkS_le bs (j + 1)
      have hfd := feed_any w HE.out g (g + 1) st S (by omega) wr HB.out hwg HD.out
      have hrf := fun W (hD : RDecIs W x st) => rfeed_any x st S (by omega) W hD
      have hsl := step_left st S.data.toList
      have hsc := step_count st S.data.toList
      have hSs : S.data.toList.length = S.size := by simp
      obtain ⟨y, hy⟩ : ∃ y, Pl.step st S.data.toList = y := ⟨_, rfl⟩
      rw [hy] at hfd hrf hsl hsc
      obtain ⟨rs, st'⟩ := y
      obtain ⟨c, hc⟩ : ∃ c, codeOf st' = c := ⟨_, rfl⟩
      unfold FeedEnd at hfd
      unfold RFeedEnd at hrf
      simp only [hc] at hfd hrf hsl hsc
      have HF := Lib.hid hfd
      have HR := Lib.hid hrf
      have HSL := Lib.hid (fun (lv lv' : Value) (F F' : Nat → Prop) (W : World) (h : LIs F W lv rs) (h' : LIs F' W lv' rs) => sameList_any rs (by omega) lv lv' F F' W h h')
      have hlt' : (j : Int) < (bs.length : Int) := by omega
      have hxw := HX.out.lt
      have hk1 := Lib.hid (fun W (hW : Below w.heap.size w W) => by
        obtain ⟨gl', off', S', e, hS', k⟩ := (HS.out.kept hW).at hlt
        obtain ⟨rfl, rfl⟩ : gl = gl' ∧ off = off' := by simpa using e
        obtain rfl : S = S' := Option.some.inj (hSj.symm.trans hS')
        exact k)
      clear hfd hrf hy hc hsr
      go_wp2_with fail
      ((with_reducible refine HF.out.mono ?_); rintro e w5 ⟨lv5, rfl, r5, hD5, hN5⟩)
      have hw5 := hN5.size
      have B5 := Lib.hid (HB.out.trans (hN5.below hwg HB.out.size))
      have D5 := Lib.hid hD5
      have X5 := Lib.hid (show RDecIs w5 x st from HX.out.kept (hN5.block x HX.out.lt hxg))
      have R5 := Lib.hid r5
      obtain ⟨a5, c5, rfl⟩ := r5.shape
      clear r5 hD5 hN5 k0
      have k0 := hk1.out _ B5.out
      go_wp2_with fail
      ((with_reducible refine (HR.out _ X5.out).mono ?_); rintro e w6 ⟨lv6, rfl, r6, hX6, hN6⟩)
      have B6 := Lib.hid (B5.out.trans (hN6.below hwx B5.out.size))
      have D6 := Lib.hid (D5.out.spared hN6 hgx hvx)
      have L6 := Lib.hid (R5.out.but hN6 hxw).lis
      have M6 := Lib.hid r6.lis
      obtain ⟨a6, c6, rfl⟩ := r6.shape
      obtain ⟨Y, hY⟩ : ∃ Y, str (st'.getD []) = Y := ⟨_, rfl⟩
      have hYs : ((st'.getD []).length : Int) = (Y.size : Int) := by rw [← hY, str_size]
      have HH := Lib.hid (fun W (hD : DecIs W g (g + 1) st') => by have := held_any W hD; rw [hYs] at this; exact this)
      have X6 := Lib.hid hX6
      have hx6 : Blk2 w6 x (.string Y) (.bool st'.isNone) := by rw [← hY]; exact hX6
      have KC := Lib.hid (fun W (h : Below w6.heap.size w6 W) => (hx6.later h).cells.1)
      clear r6 hX6 hN6 k0 hx6 hY hYs
      go_wp2_with fail
      refine wp_region_held_drew (S := (fun W => Below w6.heap.size w6 W ∧ W.cell? ⟨x, 0, none⟩ = some (.string Y))) (by kernel_rfl) ?_ (fun hHeld => ?_)
      · refine (fun h => And.intro h (KC.out _ h)) ?_; first | assumption | exact Below.refl _ _ | exact (Below.refl _ _).drew | exact hHeld.1.trans (bx.mono hHeld.1.size) | exact hHeld.1.trans ((bx.mono hHeld.1.size).drew) | exact Below.drew ‹_›
      refine wpAnyH_take (i := 0) (oi := (Go.Oper.mk (some 43) (Go.Op.move (Go.Operand.tmp 6)) 22 _ #[] none)) (v := ?_) rfl (by kernel_rfl) (by kernel_rfl) (by kernel_rfl) (fun _ _ _ h => h) (Or.inl ⟨by rfl, ?_⟩) hHeld ?_
      rotate_left
      · intro w hSw; (try dsimp only at hSw); go_simp; (try with_reducible rfl)
      simp only [Act.put, List.setIfInBounds_toArray, List.set_cons_zero, List.set_cons_succ]
      refine wpAnyH_take (i := 1) (oi := (Go.Oper.mk (some 44) (Go.Op.move (Go.Operand.tmp 8)) 22 _ #[] none)) (v := ?_) rfl (by kernel_rfl) (by kernel_rfl) (by kernel_rfl) (fun _ _ _ h => h) (Or.inl ⟨by rfl, ?_⟩) hHeld ?_
      rotate_left
      · intro w hSw; (try dsimp only at hSw); go_simp; (try with_reducible rfl)
      simp only [Act.put, List.setIfInBounds_toArray, List.set_cons_zero, List.set_cons_succ]
      refine wpAnyH_ready (rs := [2]) (by kernel_rfl) (by simp) ?_
      refine (AllReadyH.cons (o := (Go.Oper.mk (some 45) (Go.Op.call (Go.Call.mk (Go.Callee.value (Go.Operand.func 25)) #[Go.Operand.tmp 43, Go.Operand.tmp 44] #[22, 22])) 4 _ #[Go.Edge.mk 0 Go.Ground.data, Go.Edge.mk 1 Go.Ground.data] none)) rfl (fun K hK => ?_) AllReadyH.nil)
      · skip
        go_simp
        (with_reducible refine (HSL.out _ _ _ _ _ (L6.out.later hHeld.1) (M6.out.later hHeld.1)).mono ?_); rintro e wx ⟨rfl, bx⟩
        go_wp2_with fail
        refine hK.out _ _ ?_ (fun hHeld => ?_)
        · refine (fun h => And.intro h (KC.out _ h)) ?_; first | assumption | exact Below.refl _ _ | exact (Below.refl _ _).drew | exact hHeld.1.trans (bx.mono hHeld.1.size) | exact hHeld.1.trans ((bx.mono hHeld.1.size).drew) | exact Below.drew ‹_›
        clear hK K
        (try simp only [Act.put, List.setIfInBounds_toArray, List.set_cons_zero, List.set_cons_succ])
        refine wpAnyH_take (i := 3) (oi := (Go.Oper.mk (some 46) (Go.Op.unOp Go.UnOp.not 4 (Go.Operand.tmp 45)) 4 _ #[Go.Edge.mk 2 Go.Ground.data] none)) (v := ?_) rfl (by kernel_rfl) (by kernel_rfl) (by kernel_rfl) (fun _ _ _ h => h) (Or.inl ⟨by rfl, ?_⟩) hHeld ?_
        rotate_left
        · intro w hSw; (try dsimp only at hSw); go_simp; (try with_reducible rfl)
        simp only [Act.put, List.setIfInBounds_toArray, List.set_cons_zero, List.set_cons_succ]
        refine wpAnyH_take (i := 4) (oi := (Go.Oper.mk (some 47) (Go.Op.move (Go.Operand.tmp 46)) 4 _ #[Go.Edge.mk 3 Go.Ground.data, Go.Edge.mk 2 Go.Ground.chain] none)) (v := ?_) rfl (by kernel_rfl) (by kernel_rfl) (by kernel_rfl) (fun _ _ _ h => h) (Or.inl ⟨by rfl, ?_⟩) hHeld ?_
        rotate_left
        · intro w hSw; (try dsimp only at hSw); go_simp; (try with_reducible rfl)
        simp only [Act.put, List.setIfInBounds_toArray, List.set_cons_zero, List.set_cons_succ]
        refine wpAnyH_take (i := 5) (oi := (Go.Oper.mk (some 48) (Go.Op.move (Go.Operand.tmp 7)) 28 _ #[Go.Edge.mk 4 Go.Ground.guard] (some (4, false)))) (v := ?_) rfl (by kernel_rfl) (by kernel_rfl) (by kernel_rfl) (fun _ _ _ h => h) (Or.inl ⟨by rfl, ?_⟩) hHeld ?_
        rotate_left
        · intro w hSw; (try dsimp only at hSw); go_simp; (try with_reducible rfl)
        simp only [Act.put, List.setIfInBounds_toArray, List.set_cons_zero, List.set_cons_succ]
        refine wpAnyH_take (i := 6) (oi := (Go.Oper.mk (some 49) (Go.Op.move (Go.Operand.tmp 9)) 3 _ #[Go.Edge.mk 4 Go.Ground.guard] (some (4, false)))) (v := ?_) rfl (by kernel_rfl) (by kernel_rfl) (by kernel_rfl) (fun _ _ _ h => h) (Or.inl ⟨by rfl, ?_⟩) hHeld ?_
        rotate_left
        · intro w hSw; (try dsimp only at hSw); go_simp; (try with_reducible rfl)
        simp only [Act.put, List.setIfInBounds_toArray, List.set_cons_zero, List.set_cons_succ]
        refine wpAnyH_take (i := 7) (oi := (Go.Oper.mk (some 50) (Go.Op.binOp Go.BinOp.neq 3 (Go.Operand.tmp 48) (Go.Operand.tmp 49) 3) 4 _ #[Go.Edge.mk 5 Go.Ground.data, Go.Edge.mk 6 Go.Ground.data, Go.Edge.mk 4 Go.Ground.guard] (some (4, false)))) (v := ?_) rfl (by kernel_rfl) (by kernel_rfl) (by kernel_rfl) (fun _ _ _ h => h) (Or.inl ⟨by rfl, ?_⟩) hHeld ?_
        rotate_left
        · intro w hSw; (try dsimp only at hSw); go_simp; (try with_reducible rfl)
        simp only [Act.put, List.setIfInBounds_toArray, List.set_cons_zero, List.set_cons_succ]
        refine wpAnyH_take (i := 8) (oi := (Go.Oper.mk (some 51) (Go.Op.pick (Go.Operand.tmp 47) (Go.Operand.const (Go.Value.bool true)) (Go.Operand.tmp 50)) 4 _ #[Go.Edge.mk 4 Go.Ground.data, Go.Edge.mk 7 Go.Ground.data] none)) (v := ?_) rfl (by kernel_rfl) (by kernel_rfl) (by kernel_rfl) (fun _ _ _ h => h) (Or.inl ⟨by rfl, ?_⟩) hHeld ?_
        rotate_left
        · intro w hSw; (try dsimp only at hSw); go_simp; (try with_reducible rfl)
        simp only [Act.put, List.setIfInBounds_toArray, List.set_cons_zero, List.set_cons_succ]
        refine wpAnyH_take (i := 9) (oi := (Go.Oper.mk (some 52) (Go.Op.move (Go.Operand.tmp 51)) 4 _ #[Go.Edge.mk 8 Go.Ground.data, Go.Edge.mk 4 Go.Ground.chain] none)) (v := ?_) rfl (by kernel_rfl) (by kernel_rfl) (by kernel_rfl) (fun _ _ _ h => h) (Or.inl ⟨by rfl, ?_⟩) hHeld ?_
        rotate_left
        · intro w hSw; (try dsimp only at hSw); go_simp; (try with_reducible rfl)
        simp only [Act.put, List.setIfInBounds_toArray, List.set_cons_zero, List.set_cons_succ]
        refine wpAnyH_take (i := 10) (oi := (Go.Oper.mk (some 53) (Go.Op.move (Go.Operand.tmp 3)) 42 _ #[Go.Edge.mk 9 Go.Ground.guard] (some (9, false)))) (v := ?_) rfl (by kernel_rfl) (by kernel_rfl) (by kernel_rfl) (fun _ _ _ h => h) (Or.inl ⟨by rfl, ?_⟩) hHeld ?_
        rotate_left
        · intro w hSw; (try dsimp only at hSw); go_simp; (try with_reducible rfl)
        simp only [Act.put, List.setIfInBounds_toArray, List.set_cons_zero, List.set_cons_succ]
        refine wpAnyH_take (i := 12) (oi := (Go.Oper.mk (some 55) (Go.Op.move (Go.Operand.tmp 4)) 44 _ #[Go.Edge.mk 9 Go.Ground.guard] (some (9, false)))) (v := ?_) rfl (by kernel_rfl) (by kernel_rfl) (by kernel_rfl) (fun _ _ _ h => h) (Or.inl ⟨by rfl, ?_⟩) hHeld ?_
        rotate_left
        · intro w hSw; (try dsimp only at hSw); go_simp; (try with_reducible rfl)
        simp only [Act.put, List.setIfInBounds_toArray, List.set_cons_zero, List.set_cons_succ]
        refine wpAnyH_take (i := 13) (oi := (Go.Oper.mk (some 56) (Go.Op.nilCheck (Go.Operand.tmp 55)) 0 _ #[Go.Edge.mk 12 Go.Ground.data, Go.Edge.mk 9 Go.Ground.guard] (some (9, false)))) (v := ?_) rfl (by kernel_rfl) (by kernel_rfl) (by kernel_rfl) (fun _ _ _ h => h) (Or.inl ⟨by rfl, ?_⟩) hHeld ?_
        rotate_left
        · intro w hSw; (try dsimp only at hSw); go_simp; (try with_reducible rfl)
        simp only [Act.put, List.setIfInBounds_toArray, List.set_cons_zero, List.set_cons_succ]
        refine wpAnyH_take (i := 14) (oi := (Go.Oper.mk (some 57) (Go.Op.fieldAddr 46 (Go.Operand.tmp 56) 0) 0 _ #[Go.Edge.mk 13 Go.Ground.data, Go.Edge.mk 9 Go.Ground.guard] (some (9, false)))) (v := ?_) rfl (by kernel_rfl) (by kernel_rfl) (by kernel_rfl) (fun _ _ _ h => h) (Or.inl ⟨by rfl, ?_⟩) hHeld ?_
        rotate_left
        · intro w hSw; (try dsimp only at hSw); go_simp; (try with_reducible rfl)
        simp only [Act.put, List.setIfInBounds_toArray, List.set_cons_zero, List.set_cons_succ]
        refine wpAnyH_take (i := 15) (oi := (Go.Oper.mk (some 58) (Go.Op.load 9 (Go.Operand.tmp 57)) 9 _ #[Go.Edge.mk 14 Go.Ground.data, Go.Edge.mk 9 Go.Ground.guard] (some (9, false)))) (v := ?_) rfl (by kernel_rfl) (by kernel_rfl) (by kernel_rfl) (fun _ _ _ h => h) (Or.inl ⟨by rfl, ?_⟩) hHeld ?_
        rotate_left
        · intro w hSw; (try dsimp only at hSw); go_simp; (try with_reducible rfl)
        simp only [Act.put, List.setIfInBounds_toArray, List.set_cons_zero, List.set_cons_succ]
        refine wpAnyH_take (i := 16) (oi := (Go.Oper.mk (some 59) (Go.Op.call (Go.Call.mk (Go.Callee.builtin Go.Builtin.len) #[Go.Operand.tmp 58] #[9])) 3 _ #[Go.Edge.mk 15 Go.Ground.data, Go.Edge.mk 9 Go.Ground.guard] (some (9, false)))) (v := ?_) rfl (by kernel_rfl) (by kernel_rfl) (by kernel_rfl) (fun _ _ _ h => h) (Or.inl ⟨by rfl, ?_⟩) hHeld ?_
        rotate_left
        · intro w hSw; (try dsimp only at hSw); go_simp; (try with_reducible rfl)
        simp only [Act.put, List.setIfInBounds_toArray, List.set_cons_zero, List.set_cons_succ]
        refine wpAnyH_ready (rs := [11]) (by kernel_rfl) (by simp) ?_
        refine (AllReadyH.cons (o := (Go.Oper.mk (some 54) (Go.Op.call (Go.Call.mk (Go.Callee.value (Go.Operand.func 26)) #[Go.Operand.tmp 53] #[42])) 3 _ #[Go.Edge.mk 10 Go.Ground.data, Go.Edge.mk 9 Go.Ground.chain, Go.Edge.mk 9 Go.Ground.guard] (some (9, false)))) rfl (fun K hK => ?_) AllReadyH.nil)
        · skip
          go_simp
          (with_reducible refine (HH.out _ (D6.out.later hHeld.1)).mono ?_); rintro e wx ⟨rfl, bx⟩
          go_wp2_with fail
          refine hK.out _ _ ?_ (fun hHeld => ?_)
          · refine (fun h => And.intro h (KC.out _ h)) ?_; first | assumption | exact Below.refl _ _ | exact (Below.refl _ _).drew | exact hHeld.1.trans (bx.mono hHeld.1.size) | exact hHeld.1.trans ((bx.mono hHeld.1.size).drew) | exact Below.drew ‹_›
          clear hK K
          (try simp only [Act.put, List.setIfInBounds_toArray, List.set_cons_zero, List.set_cons_succ])
          refine wpAnyH_take (i := 17) (oi := (Go.Oper.mk (some 60) (Go.Op.binOp Go.BinOp.neq 3 (Go.Operand.tmp 54) (Go.Operand.tmp 59) 3) 4 _ #[Go.Edge.mk 11 Go.Ground.data, Go.Edge.mk 16 Go.Ground.data, Go.Edge.mk 9 Go.Ground.guard] (some (9, false)))) (v := ?_) rfl (by kernel_rfl) (by kernel_rfl) (by kernel_rfl) (fun _ _ _ h => h) (Or.inl ⟨by rfl, ?_⟩) hHeld ?_
          rotate_left
          · intro w hSw; (try dsimp only at hSw); go_simp; (try with_reducible rfl)
          simp only [Act.put, List.setIfInBounds_toArray, List.set_cons_zero, List.set_cons_succ]
          refine wpAnyH_take (i := 18) (oi := (Go.Oper.mk (some 61) (Go.Op.pick (Go.Operand.tmp 52) (Go.Operand.const (Go.Value.bool true)) (Go.Operand.tmp 60)) 4 _ #[Go.Edge.mk 9 Go.Ground.data, Go.Edge.mk 17 Go.Ground.data] none)) (v := ?_) rfl (by kernel_rfl) (by kernel_rfl) (by kernel_rfl) (fun _ _ _ h => h) (Or.inl ⟨by rfl, ?_⟩) hHeld ?_
          rotate_left
          · intro w hSw; (try dsimp only at hSw); go_simp; (try with_reducible rfl)
          simp only [Act.put, List.setIfInBounds_toArray, List.set_cons_zero, List.set_cons_succ]
          refine wpAnyH_done (by kernel_rfl) ?_ _
          go_wp2
          go_roundw
          case rel => exact ⟨j + 1, st', by go_num, by omega, by omega, D6.out.later hHeld.1, X6.out.later hHeld.1, B6.out.trans (hHeld.1.mono B6.out.size)⟩
          case measure => simp [intOf]; omega
    · obtain rfl : j = bs.length := by omega
      go_wp2
      go_ret
      exact ⟨rfl, HB.out⟩
end Go.Proofs.YtpngmbdchceikaaDoor
