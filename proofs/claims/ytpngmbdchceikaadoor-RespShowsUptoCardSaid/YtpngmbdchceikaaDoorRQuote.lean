/- quoted: the reference's. -/
import Derived.Test.YtpngmbdchceikaaDoorQuote
namespace Go.Proofs.YtpngmbdchceikaaDoor
open Go.ChangeShapes Go.WideShapes Go.ChangeAt Go.RowKit
open Pl (R)
set_option linter.unusedVariables false

theorem hex_at (a : Nat) (ha : a < 16) (h : a < (⟨#[48, 49, 50, 51, 52, 53, 54, 55, 56, 57, 97, 98, 99, 100, 101, 102]⟩ : ByteArray).size) : (((⟨#[48, 49, 50, 51, 52, 53, 54, 55, 56, 57, 97, 98, 99, 100, 101, 102]⟩ : ByteArray)[a]'h).toNat : Int) = ((Pl.hexd a).toNat : Int) := by
  have := (show ∀ a : Fin 16, (((⟨#[48, 49, 50, 51, 52, 53, 54, 55, 56, 57, 97, 98, 99, 100, 101, 102]⟩ : ByteArray)[a.val]'(by exact a.isLt)).toNat : Int) = ((Pl.hexd a.val).toNat : Int) by decide +kernel) ⟨a, ha⟩
  exact this
set_option maxRecDepth 100000 in
set_option maxHeartbeats 6400000 in
theorem refQuoted_any (S : ByteArray) (hS : S.size ≤ 1073741824) (w : World) : Calls Tryd.prog 30 #[.string S] w fun e w' => e = .returned (.string (str (Pl.quoteL S.data.toList))) ∧ Below w.heap.size w w' := by
  have hSl : S.data.toList.length = S.size := by simp
  have hb0 : Below w.heap.size w (w.alloc (.cells #[.int .u8 34] 5)) := (Below.refl _ _).alloc (Nat.le_refl _) _
  have H0 := Lib.hid (show Bag w.heap.size w w (w.alloc (.cells #[.int .u8 34] 5)) (.slice (some ⟨w.heap.size, 0, none⟩) 1 1) [34] true [] from ⟨World.ownsRow_lit w #[.int .u8 34] 1 (Nat.le_refl _) (by unfold maxLen; omega) rfl, hb0, Nat.le_refl _, Spares.below hb0, fun _ hm => by cases hm⟩)
  clear hb0
  go_enter Tryd.func30, Tryd.ntmps30
  go_wp2_with fail
  go_loopw [3, 4] (fun bv i wr => ∃ j : Nat, j ≤ S.size ∧ i = .int .i64 j ∧ Hid (Bag w.heap.size w w wr bv (34 :: (S.data.toList.take j).flatMap Pl.qB) true [])) (fun _ i _ => S.size - (intOf i).toNat)
  case atStart => exact ⟨0, Nat.zero_le _, rfl, by simp only [List.take_zero, List.flatMap_nil]; exact H0.out⟩
  case round =>
    obtain ⟨j, hj, rfl, H⟩ := hrel
    have HQ := Lib.hid (show ((S.data.toList.take j).flatMap Pl.qB).length ≤ 4 * 1073741824 by have := q_part S.data.toList j; omega)
    by_cases hlt : j < S.size
    · obtain ⟨c, hc⟩ : ∃ c, S.data.toList[j]? = some c := ⟨_, List.getElem?_eq_getElem (by simpa using hlt)⟩
      obtain ⟨hk, hb⟩ := byte_at hc
      have hlt' : (j : Int) < (S.size : Int) := by omega
      have hne : ∀ x : UInt8, c ≠ x → ((((S[j]'hk).toNat : Int)) == (x.toNat : Int)) = false := fun x hx => by
        rw [hb, beq_eq_false_iff_ne]
        intro e
        exact hx (UInt8.toNat_inj.1 (by omega))
      by_cases h : c = 34
      · subst h
        have HT := Lib.hid (q_take hc (show Pl.qB 34 = [92, 34] by decide))
        have hb' : ((S[j]'hk).toNat : Int) = 34 := hb
        clear hc hb hne
        go_wp2_with (at_builtin; refine bagL_last rfl (H.out.build [92, 34] #[.int .u8 92, .int .u8 34] rfl) (.tmp 27) (.tmp 29) rfl rfl _ [92, 34] _ rfl (by simp) (by have := HQ.out; simp only [List.length_append, List.length_cons, List.length_nil] at this ⊢; omega) ?_)
        intro v5 W5 hbag
        have H5 := Lib.hid hbag.forget
        clear hbag
        go_wp2
        go_roundw
        case rel => exact ⟨j + 1, by omega, by go_num, by show Bag _ _ _ _ _ _ _ _; rw [HT.out]; exact H5.out⟩
        case measure => simp [intOf]; omega
      have h34 := hne 34 h
      replace h34 : ((((S[j]'hk).toNat : Int)) == 34) = false := h34
      have g34 := h
      clear h
      by_cases h : c = 92
      · subst h
        have HT := Lib.hid (q_take hc (show Pl.qB 92 = [92, 92] by decide))
        have hb' : ((S[j]'hk).toNat : Int) = 92 := hb
        clear hc hb hne
        go_wp2_with (at_builtin; refine bagL_last rfl (H.out.build [92, 92] #[.int .u8 92, .int .u8 92] rfl) (.tmp 27) (.tmp 29) rfl rfl _ [92, 92] _ rfl (by simp) (by have := HQ.out; simp only [List.length_append, List.length_cons, List.length_nil] at this ⊢; omega) ?_)
        intro v5 W5 hbag
        have H5 := Lib.hid hbag.forget
        clear hbag
        go_wp2
        go_roundw
        case rel => exact ⟨j + 1, by omega, by go_num, by show Bag _ _ _ _ _ _ _ _; rw [HT.out]; exact H5.out⟩
        case measure => simp [intOf]; omega
      have h92 := hne 92 h
      replace h92 : ((((S[j]'hk).toNat : Int)) == 92) = false := h92
      have g92 := h
      clear h
      by_cases h : c = 10
      · subst h
        have HT := Lib.hid (q_take hc (show Pl.qB 10 = [92, 110] by decide))
        have hb' : ((S[j]'hk).toNat : Int) = 10 := hb
        clear hc hb hne
        go_wp2_with (at_builtin; refine bagL_str rfl H.out (.tmp 34) _ rfl rfl (⟨#[92, 110]⟩) [92, 110] (by decide) rfl (by have := HQ.out; simp only [List.length_append, List.length_cons, List.length_nil] at this ⊢; omega) ?_)
        intro v5 W5 hbag
        have H5 := Lib.hid hbag.forget
        clear hbag
        go_wp2
        go_roundw
        case rel => exact ⟨j + 1, by omega, by go_num, by show Bag _ _ _ _ _ _ _ _; rw [HT.out]; exact H5.out⟩
        case measure => simp [intOf]; omega
      have h10 := hne 10 h
      replace h10 : ((((S[j]'hk).toNat : Int)) == 10) = false := h10
      have g10 := h
      clear h
      by_cases h : c = 13
      · subst h
        have HT := Lib.hid (q_take hc (show Pl.qB 13 = [92, 114] by decide))
        have hb' : ((S[j]'hk).toNat : Int) = 13 := hb
        clear hc hb hne
        go_wp2_with (at_builtin; refine bagL_str rfl H.out (.tmp 39) _ rfl rfl (⟨#[92, 114]⟩) [92, 114] (by decide) rfl (by have := HQ.out; simp only [List.length_append, List.length_cons, List.length_nil] at this ⊢; omega) ?_)
        intro v5 W5 hbag
        have H5 := Lib.hid hbag.forget
        clear hbag
        go_wp2
        go_roundw
        case rel => exact ⟨j + 1, by omega, by go_num, by show Bag _ _ _ _ _ _ _ _; rw [HT.out]; exact H5.out⟩
        case measure => simp [intOf]; omega
      have h13 := hne 13 h
      replace h13 : ((((S[j]'hk).toNat : Int)) == 13) = false := h13
      have g13 := h
      clear h
      by_cases h : c = 9
      · subst h
        have HT := Lib.hid (q_take hc (show Pl.qB 9 = [92, 116] by decide))
        have hb' : ((S[j]'hk).toNat : Int) = 9 := hb
        clear hc hb hne
        go_wp2_with (at_builtin; refine bagL_str rfl H.out (.tmp 44) _ rfl rfl (⟨#[92, 116]⟩) [92, 116] (by decide) rfl (by have := HQ.out; simp only [List.length_append, List.length_cons, List.length_nil] at this ⊢; omega) ?_)
        intro v5 W5 hbag
        have H5 := Lib.hid hbag.forget
        clear hbag
        go_wp2
        go_roundw
        case rel => exact ⟨j + 1, by omega, by go_num, by show Bag _ _ _ _ _ _ _ _; rw [HT.out]; exact H5.out⟩
        case measure => simp [intOf]; omega
      have h9 := hne 9 h
      replace h9 : ((((S[j]'hk).toNat : Int)) == 9) = false := h9
      have g9 := h
      clear h
      by_cases h : c.toNat < 32 ∨ 126 < c.toNat
      · have HT := Lib.hid (q_take hc (show Pl.qB c = [92, 120, Pl.hexd (c.toNat / 16), Pl.hexd (c.toNat % 16)] by unfold Pl.qB; rw [if_neg (by simp [g34, g92]), if_neg g10, if_neg g13, if_neg g9, if_pos h]))
        obtain ⟨x, hx⟩ : ∃ x : Nat, (S[j]'hk).toNat = x := ⟨_, rfl⟩
        have hxc : c.toNat = x := by omega
        rw [hxc] at HT h
        have hx256 : x < 256 := by have := c.toNat_lt; omega
        have hxi : (((S[j]'hk).toNat : Nat) : Int) = (x : Int) := by rw [hx]
        rw [hx] at h34 h92 h10 h13 h9
        clear hc hb hne g34 g92 g10 g13 g9
        obtain ⟨hi, hhi0⟩ : ∃ hi, x / 16 = hi := ⟨_, rfl⟩
        have hhi1 : (x : Int) / 16 = (hi : Int) := by omega
        have hhi6 : (x : Int).tdiv 16 = (hi : Int) := by rw [← hhi1]; exact Int.tdiv_eq_ediv_of_nonneg (by omega)
        have hhi2 : (hi : Int) < 16 := by omega
        have hhi7 : hi < 16 := by omega
        obtain ⟨lo, hlo0⟩ : ∃ lo, x % 16 = lo := ⟨_, rfl⟩
        have hlo1 : (x : Int) % 16 = (lo : Int) := by omega
        have hlo6 : (x : Int).tmod 16 = (lo : Int) := by rw [← hlo1]; exact Int.tmod_eq_emod_of_nonneg (by omega)
        have hlo2 : (lo : Int) < 16 := by omega
        have hlo7 : lo < 16 := by omega
        have hw1 : IntKind.u8.wrap (hi : Int) = (hi : Int) := by rw [IntWalk.u8_in]; omega
        have hw2 : IntKind.u8.wrap (lo : Int) = (lo : Int) := by rw [IntWalk.u8_in]; omega
        have hI := hex_at hi hhi7
        have hJ := hex_at lo hlo7
        rw [hhi0, hlo0] at HT
        clear hhi0 hlo0 hxc hx
        rcases (show (x < 32) ∨ (32 ≤ x ∧ 126 < x) by omega) with hh | ⟨hh, hh'⟩
        · have hhi : (x : Int) < 32 := by omega
          go_wp2_with fail
          have BAG := Lib.hid H.out.drew
          refine wp_region_held_drew (S := (fun W => True)) (by kernel_rfl) ?_ (fun hHeld => ?_)
          · exact trivial
          refine wpAnyH_take (i := 0) (oi := (Go.Oper.mk (some 53) (Go.Op.move (Go.Operand.tmp 3)) 61 _ #[] none)) (v := ?_) rfl (by kernel_rfl) (by kernel_rfl) (by kernel_rfl) (fun _ _ _ h => h) (Or.inl ⟨by rfl, ?_⟩) hHeld ?_
          rotate_left
          · intro w hSw; (try dsimp only at hSw); go_simp; (try with_reducible rfl)
          simp only [Act.put, List.setIfInBounds_toArray, List.set_cons_zero, List.set_cons_succ]
          refine wpAnyH_take (i := 1) (oi := (Go.Oper.mk (some 54) (Go.Op.move (Go.Operand.tmp 5)) 5 _ #[] none)) (v := ?_) rfl (by kernel_rfl) (by kernel_rfl) (by kernel_rfl) (fun _ _ _ h => h) (Or.inl ⟨by rfl, ?_⟩) hHeld ?_
          rotate_left
          · intro w hSw; (try dsimp only at hSw); go_simp; (try with_reducible rfl)
          simp only [Act.put, List.setIfInBounds_toArray, List.set_cons_zero, List.set_cons_succ]
          refine wpAnyH_take (i := 2) (oi := (Go.Oper.mk (some 55) (Go.Op.binOp Go.BinOp.quo 5 (Go.Operand.tmp 54) (Go.Operand.const (Go.Value.int Go.IntKind.u8 16)) 5) 5 _ #[Go.Edge.mk 1 Go.Ground.data] none)) (v := ?_) rfl (by kernel_rfl) (by kernel_rfl) (by kernel_rfl) (fun _ _ _ h => h) (Or.inl ⟨by rfl, ?_⟩) hHeld ?_
          rotate_left
          · intro w hSw; (try dsimp only at hSw); go_simp; (try with_reducible rfl)
          simp only [Act.put, List.setIfInBounds_toArray, List.set_cons_zero, List.set_cons_succ]
          refine wpAnyH_take (i := 3) (oi := (Go.Oper.mk (some 56) (Go.Op.index 9 (Go.Operand.const (Go.Value.string (ByteArray.mk #[48, 49, 50, 51, 52, 53, 54, 55, 56, 57, 97, 98, 99, 100, 101, 102]))) (Go.Operand.tmp 55)) 5 _ #[Go.Edge.mk 2 Go.Ground.data] none)) (v := ?_) rfl (by kernel_rfl) (by kernel_rfl) (by kernel_rfl) (fun _ _ _ h => h) (Or.inl ⟨by rfl, ?_⟩) hHeld ?_
          rotate_left
          · intro w hSw; (try dsimp only at hSw); go_simp; (try with_reducible rfl)
          simp only [Act.put, List.setIfInBounds_toArray, List.set_cons_zero, List.set_cons_succ]
          refine wpAnyH_take (i := 4) (oi := (Go.Oper.mk (some 57) (Go.Op.move (Go.Operand.tmp 5)) 5 _ #[] none)) (v := ?_) rfl (by kernel_rfl) (by kernel_rfl) (by kernel_rfl) (fun _ _ _ h => h) (Or.inl ⟨by rfl, ?_⟩) hHeld ?_
          rotate_left
          · intro w hSw; (try dsimp only at hSw); go_simp; (try with_reducible rfl)
          simp only [Act.put, List.setIfInBounds_toArray, List.set_cons_zero, List.set_cons_succ]
          refine wpAnyH_take (i := 5) (oi := (Go.Oper.mk (some 58) (Go.Op.binOp Go.BinOp.rem 5 (Go.Operand.tmp 57) (Go.Operand.const (Go.Value.int Go.IntKind.u8 16)) 5) 5 _ #[Go.Edge.mk 4 Go.Ground.data] none)) (v := ?_) rfl (by kernel_rfl) (by kernel_rfl) (by kernel_rfl) (fun _ _ _ h => h) (Or.inl ⟨by rfl, ?_⟩) hHeld ?_
          rotate_left
          · intro w hSw; (try dsimp only at hSw); go_simp; (try with_reducible rfl)
          simp only [Act.put, List.setIfInBounds_toArray, List.set_cons_zero, List.set_cons_succ]
          refine wpAnyH_take (i := 6) (oi := (Go.Oper.mk (some 59) (Go.Op.index 9 (Go.Operand.const (Go.Value.string (ByteArray.mk #[48, 49, 50, 51, 52, 53, 54, 55, 56, 57, 97, 98, 99, 100, 101, 102]))) (Go.Operand.tmp 58)) 5 _ #[Go.Edge.mk 5 Go.Ground.data] none)) (v := ?_) rfl (by kernel_rfl) (by kernel_rfl) (by kernel_rfl) (fun _ _ _ h => h) (Or.inl ⟨by rfl, ?_⟩) hHeld ?_
          rotate_left
          · intro w hSw; (try dsimp only at hSw); go_simp; (try with_reducible rfl)
          simp only [Act.put, List.setIfInBounds_toArray, List.set_cons_zero, List.set_cons_succ]
          refine wpAnyH_ready (rs := [7]) (by kernel_rfl) (by simp) ?_
          refine (AllReadyH.cons (o := (Go.Oper.mk (some 60) (Go.Op.buildSlice 61 4 #[(0, Go.Operand.const (Go.Value.int Go.IntKind.u8 92)), (1, Go.Operand.const (Go.Value.int Go.IntKind.u8 120)), (2, Go.Operand.tmp 56), (3, Go.Operand.tmp 59)]) 61 _ #[Go.Edge.mk 3 Go.Ground.data, Go.Edge.mk 6 Go.Ground.data] none)) rfl (fun K hK => ?_) AllReadyH.nil)
          · skip
            go_simp
            have BAG := Lib.hid (BAG.out.build [92, 120, Pl.hexd hi, Pl.hexd lo] #[.int .u8 92, .int .u8 120, .int .u8 ((Pl.hexd hi).toNat : Int), .int .u8 ((Pl.hexd lo).toNat : Int)] rfl)
            refine hK.out _ _ ?_ (fun hHeld => ?_)
            · exact trivial
            clear hK K
            (try simp only [Act.put, List.setIfInBounds_toArray, List.set_cons_zero, List.set_cons_succ])
            refine wpAnyH_ready (rs := [8]) (by kernel_rfl) (by simp) ?_
            refine (AllReadyH.cons (o := (Go.Oper.mk (some 61) (Go.Op.call (Go.Call.mk (Go.Callee.builtin Go.Builtin.append) #[Go.Operand.tmp 53, Go.Operand.tmp 60] #[61, 61])) 61 _ #[Go.Edge.mk 0 Go.Ground.data, Go.Edge.mk 7 Go.Ground.data] none)) rfl (fun K hK => ?_) AllReadyH.nil)
            · skip
              (rw [if_pos (by rfl)]; refine bag_last BAG.out (.tmp 53) (.tmp 60) rfl rfl _ [92, 120, Pl.hexd hi, Pl.hexd lo] _ rfl (by simp) (by have := HQ.out; simp only [List.length_append, List.length_cons, List.length_nil] at this ⊢; omega) ?_; intro v1 W1 hbag; have BAG := Lib.hid hbag; clear hbag)
              refine hK.out _ _ ?_ (fun hHeld => ?_)
              · exact trivial
              clear hK K
              (try simp only [Act.put, List.setIfInBounds_toArray, List.set_cons_zero, List.set_cons_succ])
              refine wpAnyH_take (i := 9) (oi := (Go.Oper.mk (some 3) (Go.Op.assign (Go.Operand.tmp 61)) 61 _ #[Go.Edge.mk 8 Go.Ground.data, Go.Edge.mk 8 Go.Ground.chain, Go.Edge.mk 0 Go.Ground.phase, Go.Edge.mk 1 Go.Ground.phase, Go.Edge.mk 2 Go.Ground.phase, Go.Edge.mk 3 Go.Ground.phase, Go.Edge.mk 4 Go.Ground.phase, Go.Edge.mk 5 Go.Ground.phase, Go.Edge.mk 6 Go.Ground.phase, Go.Edge.mk 7 Go.Ground.phase, Go.Edge.mk 8 Go.Ground.phase] none)) (v := ?_) rfl (by kernel_rfl) (by kernel_rfl) (by kernel_rfl) (fun _ _ _ h => h) (Or.inl ⟨by rfl, ?_⟩) hHeld ?_
              rotate_left
              · intro w hSw; (try dsimp only at hSw); go_simp; (try with_reducible rfl)
              simp only [Act.put, List.setIfInBounds_toArray, List.set_cons_zero, List.set_cons_succ]
              refine wpAnyH_done (by kernel_rfl) ?_ _
              go_wp2
              have H5 := Lib.hid BAG.out.forget
              go_roundw
              case rel => exact ⟨j + 1, by omega, by go_num, by show Bag _ _ _ _ _ _ _ _; rw [HT.out]; exact H5.out⟩
              case measure => simp [intOf]; omega
        · have hhi : (32 : Int) ≤ (x : Int) := by omega
          have hhi' : (126 : Int) < (x : Int) := by omega
          go_wp2_with fail
          have BAG := Lib.hid H.out.drew
          refine wp_region_held_drew (S := (fun W => True)) (by kernel_rfl) ?_ (fun hHeld => ?_)
          · exact trivial
          refine wpAnyH_take (i := 0) (oi := (Go.Oper.mk (some 53) (Go.Op.move (Go.Operand.tmp 3)) 61 _ #[] none)) (v := ?_) rfl (by kernel_rfl) (by kernel_rfl) (by kernel_rfl) (fun _ _ _ h => h) (Or.inl ⟨by rfl, ?_⟩) hHeld ?_
          rotate_left
          · intro w hSw; (try dsimp only at hSw); go_simp; (try with_reducible rfl)
          simp only [Act.put, List.setIfInBounds_toArray, List.set_cons_zero, List.set_cons_succ]
          refine wpAnyH_take (i := 1) (oi := (Go.Oper.mk (some 54) (Go.Op.move (Go.Operand.tmp 5)) 5 _ #[] none)) (v := ?_) rfl (by kernel_rfl) (by kernel_rfl) (by kernel_rfl) (fun _ _ _ h => h) (Or.inl ⟨by rfl, ?_⟩) hHeld ?_
          rotate_left
          · intro w hSw; (try dsimp only at hSw); go_simp; (try with_reducible rfl)
          simp only [Act.put, List.setIfInBounds_toArray, List.set_cons_zero, List.set_cons_succ]
          refine wpAnyH_take (i := 2) (oi := (Go.Oper.mk (some 55) (Go.Op.binOp Go.BinOp.quo 5 (Go.Operand.tmp 54) (Go.Operand.const (Go.Value.int Go.IntKind.u8 16)) 5) 5 _ #[Go.Edge.mk 1 Go.Ground.data] none)) (v := ?_) rfl (by kernel_rfl) (by kernel_rfl) (by kernel_rfl) (fun _ _ _ h => h) (Or.inl ⟨by rfl, ?_⟩) hHeld ?_
          rotate_left
          · intro w hSw; (try dsimp only at hSw); go_simp; (try with_reducible rfl)
          simp only [Act.put, List.setIfInBounds_toArray, List.set_cons_zero, List.set_cons_succ]
          refine wpAnyH_take (i := 3) (oi := (Go.Oper.mk (some 56) (Go.Op.index 9 (Go.Operand.const (Go.Value.string (ByteArray.mk #[48, 49, 50, 51, 52, 53, 54, 55, 56, 57, 97, 98, 99, 100, 101, 102]))) (Go.Operand.tmp 55)) 5 _ #[Go.Edge.mk 2 Go.Ground.data] none)) (v := ?_) rfl (by kernel_rfl) (by kernel_rfl) (by kernel_rfl) (fun _ _ _ h => h) (Or.inl ⟨by rfl, ?_⟩) hHeld ?_
          rotate_left
          · intro w hSw; (try dsimp only at hSw); go_simp; (try with_reducible rfl)
          simp only [Act.put, List.setIfInBounds_toArray, List.set_cons_zero, List.set_cons_succ]
          refine wpAnyH_take (i := 4) (oi := (Go.Oper.mk (some 57) (Go.Op.move (Go.Operand.tmp 5)) 5 _ #[] none)) (v := ?_) rfl (by kernel_rfl) (by kernel_rfl) (by kernel_rfl) (fun _ _ _ h => h) (Or.inl ⟨by rfl, ?_⟩) hHeld ?_
          rotate_left
          · intro w hSw; (try dsimp only at hSw); go_simp; (try with_reducible rfl)
          simp only [Act.put, List.setIfInBounds_toArray, List.set_cons_zero, List.set_cons_succ]
          refine wpAnyH_take (i := 5) (oi := (Go.Oper.mk (some 58) (Go.Op.binOp Go.BinOp.rem 5 (Go.Operand.tmp 57) (Go.Operand.const (Go.Value.int Go.IntKind.u8 16)) 5) 5 _ #[Go.Edge.mk 4 Go.Ground.data] none)) (v := ?_) rfl (by kernel_rfl) (by kernel_rfl) (by kernel_rfl) (fun _ _ _ h => h) (Or.inl ⟨by rfl, ?_⟩) hHeld ?_
          rotate_left
          · intro w hSw; (try dsimp only at hSw); go_simp; (try with_reducible rfl)
          simp only [Act.put, List.setIfInBounds_toArray, List.set_cons_zero, List.set_cons_succ]
          refine wpAnyH_take (i := 6) (oi := (Go.Oper.mk (some 59) (Go.Op.index 9 (Go.Operand.const (Go.Value.string (ByteArray.mk #[48, 49, 50, 51, 52, 53, 54, 55, 56, 57, 97, 98, 99, 100, 101, 102]))) (Go.Operand.tmp 58)) 5 _ #[Go.Edge.mk 5 Go.Ground.data] none)) (v := ?_) rfl (by kernel_rfl) (by kernel_rfl) (by kernel_rfl) (fun _ _ _ h => h) (Or.inl ⟨by rfl, ?_⟩) hHeld ?_
          rotate_left
          · intro w hSw; (try dsimp only at hSw); go_simp; (try with_reducible rfl)
          simp only [Act.put, List.setIfInBounds_toArray, List.set_cons_zero, List.set_cons_succ]
          refine wpAnyH_ready (rs := [7]) (by kernel_rfl) (by simp) ?_
          refine (AllReadyH.cons (o := (Go.Oper.mk (some 60) (Go.Op.buildSlice 61 4 #[(0, Go.Operand.const (Go.Value.int Go.IntKind.u8 92)), (1, Go.Operand.const (Go.Value.int Go.IntKind.u8 120)), (2, Go.Operand.tmp 56), (3, Go.Operand.tmp 59)]) 61 _ #[Go.Edge.mk 3 Go.Ground.data, Go.Edge.mk 6 Go.Ground.data] none)) rfl (fun K hK => ?_) AllReadyH.nil)
          · skip
            go_simp
            have BAG := Lib.hid (BAG.out.build [92, 120, Pl.hexd hi, Pl.hexd lo] #[.int .u8 92, .int .u8 120, .int .u8 ((Pl.hexd hi).toNat : Int), .int .u8 ((Pl.hexd lo).toNat : Int)] rfl)
            refine hK.out _ _ ?_ (fun hHeld => ?_)
            · exact trivial
            clear hK K
            (try simp only [Act.put, List.setIfInBounds_toArray, List.set_cons_zero, List.set_cons_succ])
            refine wpAnyH_ready (rs := [8]) (by kernel_rfl) (by simp) ?_
            refine (AllReadyH.cons (o := (Go.Oper.mk (some 61) (Go.Op.call (Go.Call.mk (Go.Callee.builtin Go.Builtin.append) #[Go.Operand.tmp 53, Go.Operand.tmp 60] #[61, 61])) 61 _ #[Go.Edge.mk 0 Go.Ground.data, Go.Edge.mk 7 Go.Ground.data] none)) rfl (fun K hK => ?_) AllReadyH.nil)
            · skip
              (rw [if_pos (by rfl)]; refine bag_last BAG.out (.tmp 53) (.tmp 60) rfl rfl _ [92, 120, Pl.hexd hi, Pl.hexd lo] _ rfl (by simp) (by have := HQ.out; simp only [List.length_append, List.length_cons, List.length_nil] at this ⊢; omega) ?_; intro v1 W1 hbag; have BAG := Lib.hid hbag; clear hbag)
              refine hK.out _ _ ?_ (fun hHeld => ?_)
              · exact trivial
              clear hK K
              (try simp only [Act.put, List.setIfInBounds_toArray, List.set_cons_zero, List.set_cons_succ])
              refine wpAnyH_take (i := 9) (oi := (Go.Oper.mk (some 3) (Go.Op.assign (Go.Operand.tmp 61)) 61 _ #[Go.Edge.mk 8 Go.Ground.data, Go.Edge.mk 8 Go.Ground.chain, Go.Edge.mk 0 Go.Ground.phase, Go.Edge.mk 1 Go.Ground.phase, Go.Edge.mk 2 Go.Ground.phase, Go.Edge.mk 3 Go.Ground.phase, Go.Edge.mk 4 Go.Ground.phase, Go.Edge.mk 5 Go.Ground.phase, Go.Edge.mk 6 Go.Ground.phase, Go.Edge.mk 7 Go.Ground.phase, Go.Edge.mk 8 Go.Ground.phase] none)) (v := ?_) rfl (by kernel_rfl) (by kernel_rfl) (by kernel_rfl) (fun _ _ _ h => h) (Or.inl ⟨by rfl, ?_⟩) hHeld ?_
              rotate_left
              · intro w hSw; (try dsimp only at hSw); go_simp; (try with_reducible rfl)
              simp only [Act.put, List.setIfInBounds_toArray, List.set_cons_zero, List.set_cons_succ]
              refine wpAnyH_done (by kernel_rfl) ?_ _
              go_wp2
              have H5 := Lib.hid BAG.out.forget
              go_roundw
              case rel => exact ⟨j + 1, by omega, by go_num, by show Bag _ _ _ _ _ _ _ _; rw [HT.out]; exact H5.out⟩
              case measure => simp [intOf]; omega
      · have HT := Lib.hid (q_take hc (show Pl.qB c = [c] by unfold Pl.qB; rw [if_neg (by simp [g34, g92]), if_neg g10, if_neg g13, if_neg g9, if_neg h]))
        have hc1 : ((S[j]'hk).toNat : Int) = (c.toNat : Int) := hb
        rw [hb] at h34 h92 h10 h13 h9
        have hl1 : (32 : Int) ≤ (c.toNat : Int) := by omega
        have hl2 : (c.toNat : Int) ≤ 126 := by omega
        clear hc hb hne g34 g92 g10 g13 g9 h
        go_wp2_with (at_builtin; refine bagL_last rfl (H.out.build [c] #[.int .u8 (c.toNat : Int)] rfl) (.tmp 16) (.tmp 18) rfl rfl _ [c] _ rfl (by simp) (by have := HQ.out; simp only [List.length_append, List.length_cons, List.length_nil] at this ⊢; omega) ?_)
        intro v5 W5 hbag
        have H5 := Lib.hid hbag.forget
        clear hbag
        go_wp2
        go_roundw
        case rel => exact ⟨j + 1, by omega, by go_num, by show Bag _ _ _ _ _ _ _ _; rw [HT.out]; exact H5.out⟩
        case measure => simp [intOf]; omega
    · obtain rfl : j = S.size := by omega
      have hall : S.data.toList.take S.size = S.data.toList := List.take_of_length_le (by simp)
      have HX := Lib.hid H.out
      rw [hall] at HX
      have HQ2 := Lib.hid (show Pl.quoteL S.data.toList = 34 :: (S.data.toList.flatMap Pl.qB ++ [34]) from rfl)
      rw [hall] at HQ
      clear H hall
      go_wp2_with (at_builtin; refine bagL_last rfl (HX.out.build [34] #[.int .u8 34] rfl) (.tmp 62) (.tmp 63) rfl rfl _ [34] _ rfl (by simp) (by have := HQ.out; simp only [List.length_append, List.length_cons, List.length_nil] at this ⊢; omega) ?_)
      intro v5 W5 hbag
      rw [← HQ2.out] at hbag
      obtain ⟨g, cap, rfl⟩ : ∃ g cap, v5 = .slice (some ⟨g, 0, none⟩) (Pl.quoteL S.data.toList).length cap := by
        rcases hbag.own.2 with ⟨_, h0⟩ | ⟨g, cap, _, h1, _⟩
        · simp [Pl.quoteL] at h0
        · exact ⟨g, cap, h1⟩
      have H7 := Lib.hid hbag
      clear hbag
      go_wp2
      rw [conv_own H7.out.own]
      simp only [Result.andThen]
      rw [Oper.upon_value]
      go_wp2
      go_ret
      exact ⟨rfl, H7.out.bel⟩
end Go.Proofs.YtpngmbdchceikaaDoor
