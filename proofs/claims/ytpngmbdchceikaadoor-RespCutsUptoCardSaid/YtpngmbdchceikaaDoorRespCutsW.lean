/- The walk of RespCuts. -/
import Derived.Test.YtpngmbdchceikaaDoorRespFeedsW
import Derived.Test.YtpngmbdchceikaaDoorCat
import Derived.Test.YtpngmbdchceikaaDoorInts
namespace Go.Proofs.YtpngmbdchceikaaDoor
open Go.ChangeShapes Go.WideShapes Go.ChangeAt Go.RowKit
open Pl (R Rd)
set_option linter.unusedVariables false

theorem LIs.but {F : Nat → Prop} {w w' : World} {v : Value} {l : List R} {g : Nat} (h : LIs F w v l) (hb : But g w w') (hF : ∀ b, F b → b ≠ g) : LIs F w' v l := h.kept hb.size fun b h1 h2 => hb.block b h2 (hF b h1)
set_option maxRecDepth 100000 in
set_option maxHeartbeats 6400000 in
theorem respCuts_walk (S : ByteArray) (hS : S.size ≤ 1048576) (cv : Value) (zs : List Int) (hzl : zs.length ≤ 140737488355328) (w : World) (hs : IRow w cv zs) (hE : Env w) :
    Calls Tryd.prog 8 #[.string S, cv] w fun e w' => e = .returned (.bool true) ∧ Below w.heap.size w w' := by
  obtain ⟨ao, cp, rfl⟩ : ∃ ao cp, cv = .slice ao zs.length cp := by obtain ⟨ao, cp, e, -⟩ := hs; exact ⟨ao, cp, e⟩
  have HA := Lib.hid (fun W (h : Env W) => awake_any W h)
  have HNw := Lib.hid (fun W => new_any W)
  have HS := Lib.hid hs
  have HE := Lib.hid hE
  have hSs : S.data.toList.length = S.size := by simp
  clear hE hs
  go_enter Tryd.func8, Tryd.ntmps8
  go_wp2_with fail
  ((with_reducible refine (HNw.out _).mono ?_); rintro e w1 ⟨rfl, hD1, b1, hs1⟩)
  have B1 := Lib.hid b1
  have D1 := Lib.hid hD1
  clear b1 hD1
  go_wp2_with fail
  ((with_reducible refine (HNw.out _).mono ?_); rintro e w2 ⟨rfl, hD2, b2, hs2⟩)
  obtain ⟨g1, hg1⟩ : ∃ g1, w.heap.size = g1 := ⟨_, rfl⟩
  obtain ⟨g2, hg2⟩ : ∃ g2, w1.heap.size = g2 := ⟨_, rfl⟩
  have hg12 : g1 + 2 ≤ g2 := by omega
  have B2 := Lib.hid (B1.out.trans (b2.mono B1.out.size))
  have D2 := Lib.hid (D1.out.later b2)
  have T2 := Lib.hid hD2
  rw [hg1] at D2
  rw [hg2] at T2
  clear b2 hD2 hs1 D1 B1
  go_wp2_with fail
  ((with_reducible refine (HA.out _ (HE.out.kept B2.out)).mono ?_); rintro e w3 ⟨rfl, b3⟩)
  have hw23 := b3.size
  have B3 := Lib.hid (B2.out.trans (b3.mono B2.out.size))
  have D3 := Lib.hid (D2.out.later b3)
  have T3 := Lib.hid (T2.out.later b3)
  clear b3
  obtain ⟨y, hy⟩ : ∃ y, Pl.step (some []) S.data.toList = y := ⟨_, rfl⟩
  have hf1 := feed_any w HE.out g1 (g1 + 1) (some []) S (by simp; omega) w3 B3.out (by omega) D3.out
  have hcA := step_count (some []) S.data.toList
  rw [hy] at hf1 hcA
  obtain ⟨A, stA⟩ := y
  simp only [Option.getD, List.length_nil, Nat.zero_add] at hcA
  have HF1 := Lib.hid hf1
  unfold FeedEnd at HF1
  have HY := Lib.hid hy
  clear hf1 hy
  go_wp2_with fail
  ((with_reducible refine HF1.out.mono ?_); rintro e w4 ⟨lv4, rfl, r4, hD4, hN4⟩)
  have hw34 := hN4.size
  have D4 := Lib.hid hD4
  have T4 := Lib.hid (T3.out.spared hN4 (by omega) (by omega))
  have B4 := Lib.hid (B3.out.trans (hN4.below (by omega) B3.out.size))
  have L4 := Lib.hid r4.lis
  obtain ⟨a4, c4, rfl⟩ := r4.shape
  obtain ⟨bb, hbb⟩ : ∃ bb, w4.heap.size = bb := ⟨_, rfl⟩
  have hg2b : g2 < bb := by have := T4.out.box.lt; omega
  have hv2b : g2 + 1 < bb := by have := T4.out.var.lt; omega
  clear r4 hD4 hN4
  go_wp2_with fail
  go_loopw [9, 10, 11, 12] (fun bv bad at' idx wr => ∃ (q i : Nat) (acc : List R) (st : Option (List UInt8)), bad = .int .i64 (codeOf st) ∧ at' = .int .i64 q ∧ idx = .int .i64 i ∧ i ≤ zs.length + 1 ∧ q ≤ S.size ∧ (i = zs.length + 1 → q = S.size) ∧ Hid (Pl.step (some []) (S.data.toList.take q) = (acc, st)) ∧ Hid (RRow bb wr bv acc) ∧ Hid (DecIs wr g2 (g2 + 1) st) ∧ Hid (But g2 w4 wr)) (fun _ _ _ idx _ => zs.length + 1 - (intOf idx).toNat)
  case atStart => exact ⟨0, 0, [], some [], rfl, rfl, rfl, by omega, Nat.zero_le _, by omega, (by show _ = _; simp only [List.take_zero, Pl.step, List.nil_append]; exact Pl.fed_more (Pl.rd_nil 8)), RRow.nil _ _, T4.out, But.refl _ _⟩
  case round =>
    obtain ⟨q, i, acc, st, rfl, rfl, rfl, hi, hq, hend, HY2, hrow, HD, HN⟩ := hrel
    have hbw : Below w.heap.size w wr := B4.out.trans (HN.out.below (by omega) B4.out.size)
    have hwz := HN.out.size
    by_cases hle : i ≤ zs.length
    · obtain ⟨M, hM⟩ : ∃ M, S.size - q = M := ⟨_, rfl⟩
      have hMi : (S.size : Int) - (q : Int) = (M : Int) := by omega
      have hMw : IntKind.i64.wrap ((S.size : Int) - (q : Int)) = (M : Int) := by rw [IntWalk.i64_in] <;> omega
      have hle' : (i : Int) ≤ (zs.length : Int) := by omega
      have hown := hrow.out.own
      have hlq : (st.getD []).length ≤ q := by
        have := step_left (some []) (S.data.toList.take q)
        rw [HY2.out] at this
        simp only [Option.getD, List.length_nil, Nat.zero_add, List.length_take] at this ⊢
        omega
      have hlA : acc.length ≤ q := by
        have := step_count (some []) (S.data.toList.take q)
        rw [HY2.out] at this
        simp only [Option.getD, List.length_nil, Nat.zero_add, List.length_take] at this ⊢
        omega
      have hall : ∀ N, N ≤ M → ∃ rs st', Hid (Calls Tryd.prog 23 #[.pointer (some ⟨g2, 0, none⟩), .string (S.extract q (q + N))] wr (fun e w' => ∃ lv, e = .returned (.tuple #[lv, .int .i64 (codeOf st')]) ∧ RRow wr.heap.size w' lv rs ∧ DecIs w' g2 (g2 + 1) st' ∧ But g2 wr w')) ∧ Hid (Pl.step (some []) (S.data.toList.take (q + N)) = (acc ++ rs, st')) ∧ acc.length + rs.length ≤ 2147483647 := by
        intro N hN
        obtain ⟨y, hy⟩ : ∃ y, Pl.step st (S.extract q (q + N)).data.toList = y := ⟨_, rfl⟩
        have hPs : (S.extract q (q + N)).size = N := by rw [ByteArray.size_extract]; omega
        have hf := feed_any w HE.out g2 (g2 + 1) st (S.extract q (q + N)) (by omega) wr hbw (by omega) HD.out
        have hc := step_count st (S.extract q (q + N)).data.toList
        rw [hy] at hf hc
        have hPl : (S.extract q (q + N)).data.toList.length = N := by rw [Array.length_toList]; exact hPs
        rw [hPl] at hc
        refine ⟨y.1, y.2, hf, ?_, by omega⟩
        show _ = _
        have hstep := Pl.step_two (some []) (S.data.toList.take q) ((S.data.toList.drop q).take N)
        rw [HY2.out] at hstep
        have : S.data.toList.take (q + N) = S.data.toList.take q ++ (S.data.toList.drop q).take N := List.take_add
        rw [this, hstep]
        simp only
        rw [← sub_take, hy]
      by_cases hlt : i < zs.length
      · obtain ⟨gl, off, c, rfl, hc, k0⟩ := (HS.out.kept hbw).at hlt
        have hlt' : (i : Int) < (zs.length : Int) := by omega
        obtain ⟨N, hmin⟩ : ∃ N : Nat, min (max c 0) (M : Int) = (N : Int) := ⟨(min (max c 0) (M : Int)).toNat, by omega⟩
        have hNM : N ≤ M := by omega
        obtain ⟨rs, st', HF, HX, hcnt⟩ := hall N hNM
        have hlast : i + 1 = zs.length + 1 → q + N = S.size := fun e => by omega
        clear hall hc hlq hlA
        go_wp2_with fail
        ((with_reducible refine HF.out.mono ?_); rintro e w5 ⟨lv5, rfl, r5, hD5, hN5⟩)
        have hw5 := hN5.size
        have D5 := Lib.hid hD5
        have N5 := Lib.hid (HN.out.trans hN5)
        have R5 := Lib.hid r5
        have Q5 := Lib.hid (hrow.out.but hN5 hg2b)
        obtain ⟨a5, c5, rfl⟩ := r5.shape
        have hHF := Lib.hid (show ∀ b, wr.heap.size ≤ b → bb ≤ b ∧ u9.ownBlock ≠ some b from fun b hb2 => ⟨by omega, fun e => by have := (hown b e).2; omega⟩)
        clear r5 hD5 hN5
        go_wp2_with (at_builtin; refine wpList_append_rows w5 rfl (.tmp 66) (.tmp 67) rfl bb u9 acc (by simp [Act.eval]) Q5.out wr.heap.size _ rs (by simp [Act.eval]) R5.out hHF.out hcnt (by omega) ?_)
        intro v7 w7 hrow7 hB7 hz7 hk7
        obtain ⟨a7, c7, hv7⟩ := hrow7.shape
        rw [List.length_append] at hv7
        subst hv7
        have hgo : some g2 ≠ u9.ownBlock := fun e => by have := (hown g2 e.symm).1; omega
        have hvo : some (g2 + 1) ≠ u9.ownBlock := fun e => by have := (hown (g2 + 1) e.symm).1; omega
        have D7 := Lib.hid (show DecIs w7 g2 (g2 + 1) st' from ⟨D5.out.box.kept (hk7 _ D5.out.box.lt hgo), D5.out.var.kept (hk7 _ D5.out.var.lt hvo)⟩)
        have N7 := Lib.hid (N5.out.then (by rw [hbb]; exact hB7 _ _ (Below.refl _ _) (Nat.le_refl _)))
        have R7 := Lib.hid hrow7
        clear hrow7 hB7 hk7
        go_wp2
        go_roundw
        case rel => exact ⟨q + N, i + 1, acc ++ rs, st', rfl, by go_num, by go_num, by omega, by omega, (fun _ => by first | exact hlast ‹_› | exact hlast trivial), HX, R7.out, D7.out, N7.out⟩
        case measure => first | omega | (simp [intOf] <;> omega)
      · obtain rfl : i = zs.length := by omega
        obtain ⟨rs, st', HF, HX, hcnt⟩ := hall M (Nat.le_refl _)
        have hlast : zs.length + 1 = zs.length + 1 → q + M = S.size := fun e => by omega
        clear hall hlq hlA
        obtain ⟨N, rfl⟩ : ∃ N, N = M := ⟨_, rfl⟩
        obtain ⟨i, hi0⟩ : ∃ i, i = zs.length := ⟨_, rfl⟩
        rw [← hi0] at hlast
        rw [show q + N = S.size by omega] at HF
        go_wp2_with fail
        rw [← hi0]
        ((with_reducible refine HF.out.mono ?_); rintro e w5 ⟨lv5, rfl, r5, hD5, hN5⟩)
        have hw5 := hN5.size
        have D5 := Lib.hid hD5
        have N5 := Lib.hid (HN.out.trans hN5)
        have R5 := Lib.hid r5
        have Q5 := Lib.hid (hrow.out.but hN5 hg2b)
        obtain ⟨a5, c5, rfl⟩ := r5.shape
        have hHF := Lib.hid (show ∀ b, wr.heap.size ≤ b → bb ≤ b ∧ u9.ownBlock ≠ some b from fun b hb2 => ⟨by omega, fun e => by have := (hown b e).2; omega⟩)
        clear r5 hD5 hN5
        go_wp2_with (at_builtin; refine wpList_append_rows w5 rfl (.tmp 66) (.tmp 67) rfl bb u9 acc (by simp [Act.eval]) Q5.out wr.heap.size _ rs (by simp [Act.eval]) R5.out hHF.out hcnt (by omega) ?_)
        intro v7 w7 hrow7 hB7 hz7 hk7
        obtain ⟨a7, c7, hv7⟩ := hrow7.shape
        rw [List.length_append] at hv7
        subst hv7
        have hgo : some g2 ≠ u9.ownBlock := fun e => by have := (hown g2 e.symm).1; omega
        have hvo : some (g2 + 1) ≠ u9.ownBlock := fun e => by have := (hown (g2 + 1) e.symm).1; omega
        have D7 := Lib.hid (show DecIs w7 g2 (g2 + 1) st' from ⟨D5.out.box.kept (hk7 _ D5.out.box.lt hgo), D5.out.var.kept (hk7 _ D5.out.var.lt hvo)⟩)
        have N7 := Lib.hid (N5.out.then (by rw [hbb]; exact hB7 _ _ (Below.refl _ _) (Nat.le_refl _)))
        have R7 := Lib.hid hrow7
        clear hrow7 hB7 hk7
        go_wp2
        go_roundw
        case rel => exact ⟨q + N, i + 1, acc ++ rs, st', rfl, by go_num, by go_num, by omega, by omega, (fun _ => by first | exact hlast ‹_› | exact hlast trivial), HX, R7.out, D7.out, N7.out⟩
        case measure => first | omega | (simp [intOf] <;> omega)
    · obtain rfl : i = zs.length + 1 := by omega
      have hq2 := hend rfl
      subst hq2
      have hyy := HY2.out
      rw [List.take_of_length_le (by simp), HY.out] at hyy
      obtain ⟨rfl, rfl⟩ : A = acc ∧ stA = st := by simpa using hyy
      have La := Lib.hid (L4.out.but HN.out (fun b hb => by omega))
      have Lb := Lib.hid hrow.out.lis
      have D9 := Lib.hid (D4.out.spared HN.out (by omega) (by omega))
      have HSL := Lib.hid (fun (lv lv' : Value) (F F' : Nat → Prop) (W : World) (h : LIs F W lv A) (h' : LIs F' W lv' A) => sameList_any A (by omega) lv lv' F F' W h h')
      have HB := Lib.hid hbw
      have HH := Lib.hid (fun g v W (hD : DecIs W g v stA) => held_any W hD)
      have hcc : (((zs.length + 1 : Nat) : Int) ≤ (zs.length : Int)) = False := by rw [eq_iff_iff, iff_false]; omega
      obtain ⟨ab, cb, rfl⟩ := hrow.out.shape
      clear hyy hbw
      go_wp2_with fail
      ((with_reducible refine (HSL.out _ _ _ _ _ La.out Lb.out).mono ?_); rintro e w5 ⟨rfl, b5⟩)
      have D5 := Lib.hid (D9.out.later b5)
      have T5 := Lib.hid (HD.out.later b5)
      have B5 := Lib.hid (HB.out.trans (b5.mono HB.out.size))
      clear b5
      go_wp2_with fail
      ((with_reducible refine (HH.out _ _ _ D5.out).mono ?_); rintro e w6 ⟨rfl, b6⟩)
      have T6 := Lib.hid (T5.out.later b6)
      have B6 := Lib.hid (B5.out.trans (b6.mono B5.out.size))
      clear b6
      go_wp2_with fail
      ((with_reducible refine (HH.out _ _ _ T6.out).mono ?_); rintro e w7 ⟨rfl, b7⟩)
      go_wp2
      go_ret
      exact ⟨by simp, B6.out.trans (b7.mono B6.out.size)⟩
end Go.Proofs.YtpngmbdchceikaaDoor
