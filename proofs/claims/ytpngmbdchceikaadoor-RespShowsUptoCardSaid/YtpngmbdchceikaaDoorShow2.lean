/- show, Show: arrays; all replies. -/
import Derived.Test.YtpngmbdchceikaaDoorShow
namespace Go.Proofs.YtpngmbdchceikaaDoor
open Go.ChangeShapes Go.WideShapes Go.ChangeAt Go.RowKit
open Pl (R)
set_option linter.unusedVariables false

theorem enc_item {l : List R} {d j : Nat} {r : R} (h : l[j]? = some r) (n : Int) : (Pl.encL d r).length ≤ (Pl.encL (d + 1) (.mk 6 [] n l)).length := by
  rw [enc_6]
  have := flat_part (Pl.encL d) h
  simp only [List.length_append, List.length_cons]
  omega
theorem enc_all (l : List R) (d : Nat) (n : Int) : l.length ≤ (Pl.encL (d + 1) (.mk 6 [] n l)).length := by
  rw [enc_6]
  have := Pl.flat_len (f := Pl.encL d) (Pl.enc_pos d) l
  simp only [List.length_append, List.length_cons]
  omega
theorem join_bound {l : List R} {d : Nat} (hm : ∀ x ∈ l, Pl.mayL d x = true) (j : Nat) : (Lib.join ((l.take j).map (Pl.showL d)) [44, 32]).length ≤ 4 * (Pl.encL (d + 1) (.mk 6 [] 0 l)).length := by
  have h1 := Pl.join_len ((l.take j).map (Pl.showL d))
  have h2 := Pl.sum_flat (f := Pl.showL d) (g := Pl.encL d) (l.take j) fun x hx => Pl.show_enc d x (hm x (List.mem_of_mem_take hx))
  have h3 : ((l.take j).flatMap (Pl.encL d)).length ≤ (l.flatMap (Pl.encL d)).length := by
    conv => rhs; rw [← List.take_append_drop j l]
    rw [List.flatMap_append, List.length_append]; omega
  rw [enc_6]
  simp only [List.length_append, List.length_cons]
  omega
set_option maxRecDepth 100000 in
set_option maxHeartbeats 6400000 in
theorem show_arr (d : Nat) (ih : ShowOk d) (l : List R) (lv : Value) (F : Nat → Prop) (w : World) (hok : OkR (.mk 6 [] 0 l)) (hL : LIs F w lv l) (hm : ∀ x ∈ l, Pl.mayL d x = true) (hlen : (Pl.encL (d + 1) (.mk 6 [] 0 l)).length ≤ 1073741824) (hp : Pows w) :
    Calls Tryd.prog 28 #[.agg #[.int .i64 6, .string (str []), .int .i64 0, lv]] w (ShowEnd (d + 1) (.mk 6 [] 0 l) w) := by
  unfold ShowEnd
  rw [Pl.show_6]
  obtain ⟨ao, cp, rfl⟩ := hL.shape
  have hb0 : Below w.heap.size w (w.alloc (.cells #[.int .i64 6, .string (str []), .int .i64 0, .slice ao l.length cp] 24)) := (Below.refl _ _).alloc (Nat.le_refl _) _
  have HB0 := Lib.hid hb0
  have HL := Lib.hid hL
  have HP := Lib.hid hp
  have IH := Lib.hid ih
  have HM := Lib.hid hm
  have HLEN := Lib.hid hlen
  have hlc := enc_all l d 0
  have hll : l.length ≤ 1073741824 := by omega
  clear hb0 hp hL ih hm hlen hok hlc
  go_enter Tryd.func28, Tryd.ntmps28
  go_wp2_with fail
  go_loopw [3, 35] (fun lv' i wr => ∃ j : Nat, j ≤ l.length ∧ i = .int .i64 j ∧ Hid (SOwn (w.heap.size + 1) wr lv' ((l.map (Pl.showL d)).take j)) ∧ Hid (Below w.heap.size w wr) ∧ Hid (w.heap.size + 1 ≤ wr.heap.size)) (fun _ i _ => l.length - (intOf i).toNat)
  case atStart => exact ⟨0, Nat.zero_le _, rfl, World.ownsRow_nil _ _ _ _, HB0.out, (by show _ ≤ _; simp)⟩
  case round =>
    obtain ⟨j, hj, rfl, HS, HB, HZ⟩ := hrel
    by_cases hlt : j < l.length
    · have hLr := HL.out.later HB.out
      obtain ⟨g, off, r, lv1, rfl, hg, hr, hok1, k0, k1, k2, k3, hLe⟩ := hLr.at hlt
      obtain ⟨aj, cj, rfl⟩ := hLe.shape
      have hrm := List.mem_of_getElem? hr
      have hb1 : Below wr.heap.size wr (wr.alloc (.cells #[.int .i64 r.k, .string (str r.t), .int .i64 r.n, .slice aj r.l.length cj] 24)) := (Below.refl _ _).alloc (Nat.le_refl _) _
      have B1 := Lib.hid (HB.out.trans (hb1.mono HB.out.size))
      have S1 := Lib.hid (HS.out.later hb1)
      have HI := Lib.hid (IH.out r (.slice aj r.l.length cj) F _ hok1 (hLe.later hb1) (HM.out r hrm) (by have := enc_item (d := d) hr 0; have := HLEN.out; omega) (HP.out.kept (B := 0) B1.out))
      unfold ShowEnd at HI
      have hlt' : (j : Int) < (l.length : Int) := by omega
      have HT : Hid ((l.map (Pl.showL d)).take j ++ [Pl.showL d r] = (l.map (Pl.showL d)).take (j + 1)) := (by show _ = _; rw [List.take_add_one, List.getElem?_map, hr]; rfl)
      have hjl : ((l.map (Pl.showL d)).take j).length ≤ 1073741824 := by rw [List.length_take, List.length_map]; omega
      clear hLr hLe hb1 hok1
      go_wp2_with fail
      ((with_reducible refine HI.out.mono ?_); rintro e w5 ⟨rfl, b5⟩)
      have B5 := Lib.hid (B1.out.trans (b5.mono B1.out.size))
      have S5 := Lib.hid (S1.out.later b5)
      have hz5 : w.heap.size + 1 ≤ w5.heap.size := by have h1 := b5.size; have h2 := HZ.out; first | omega | (simp at h1; omega)
      clear b5 k0 k1 k2 k3
      go_wp2_with (at_builtin; refine wpList_append_str w5 rfl (.tmp 39) (.tmp 42) rfl (w.heap.size + 1) u3 _ rfl S5.out (Pl.showL d r) (by simp [Act.eval]) hjl hz5 ?_)
      intro v7 w7 hown7 hB7
      rw [HT.out] at hown7
      have S7 := Lib.hid hown7
      have B7 := Lib.hid (hB7 _ _ B5.out (by omega))
      have hz7 := Lib.hid (show w.heap.size + 1 ≤ w7.heap.size by have := (hB7 _ _ (Below.refl 0 w5) (by omega)).size; omega)
      clear hown7 hB7
      go_wp2
      go_roundw
      case rel => exact ⟨j + 1, by omega, by go_num, S7.out, B7.out, hz7.out⟩
      case measure => simp [intOf]; omega
    · obtain rfl : j = l.length := by omega
      have hS := HS.out
      have hjb := join_bound HM.out l.length
      rw [List.take_length] at hjb
      rw [List.take_of_length_le (by rw [List.length_map]; exact Nat.le_refl _)] at hS
      have hjb2 : (Lib.join (l.map (Pl.showL d)) [44, 32]).length ≤ 140737488355328 := by have := HLEN.out; omega
      have hsz : (str (Lib.join (l.map (Pl.showL d)) [44, 32])).size ≤ 8589934592 := by rw [str_size]; have := HLEN.out; omega
      obtain ⟨av, cv, hv, hjoin⟩ := join_own hS hjb2 (by rw [List.length_map]; exact hll)
      subst hv
      rw [List.length_map] at hjoin
      have HJ := Lib.hid hjoin
      obtain ⟨J, hJ⟩ : ∃ J, Lib.join (l.map (Pl.showL d)) [44, 32] = J := ⟨_, rfl⟩
      rw [hJ] at HJ hsz
      have HJE := Lib.hid hJ
      clear hS hjb hjb2 hjoin HS hJ
      go_wp2_with fail
      ((with_reducible refine (HJ.out _ (Below.refl _ _)).mono ?_); rintro e w5 ⟨rfl, b5⟩)
      go_wp2
      rw [show (⟨#[91]⟩ : ByteArray) ++ str J ++ (⟨#[93]⟩ : ByteArray) = str (91 :: (J ++ [93])) from (congrArg (· ++ (⟨#[93]⟩ : ByteArray)) (str_app [91] J)).trans ((str_app ([91] ++ J) [93]).trans (by simp))]
      go_ret
      exact ⟨by rw [HJE.out]; rfl, HB.out.trans (b5.mono HB.out.size)⟩
set_option maxRecDepth 100000 in
set_option maxHeartbeats 6400000 in
theorem rshow_arr (d : Nat) (hd : d < 8) (ih : RShowOk d) (l : List R) (lv : Value) (F : Nat → Prop) (w : World) (hok : OkR (.mk 6 [] 0 l)) (hL : LIs F w lv l) (hm : ∀ x ∈ l, Pl.mayL d x = true) (hm8 : Pl.mayL 8 (.mk 6 [] 0 l) = true) (hlen : (Pl.encL (d + 1) (.mk 6 [] 0 l)).length ≤ 1073741824) (hp : Pows w) :
    Calls Tryd.prog 12 #[.agg #[.int .i64 6, .string (str []), .int .i64 0, lv]] w (ShowEnd (d + 1) (.mk 6 [] 0 l) w) := by
  unfold ShowEnd
  rw [Pl.show_6]
  obtain ⟨ao, cp, rfl⟩ := hL.shape
  have hb0 : Below w.heap.size w (w.alloc (.cells #[.int .i64 6, .string (str []), .int .i64 0, .slice ao l.length cp] 24)) := (Below.refl _ _).alloc (Nat.le_refl _) _
  have HB0 := Lib.hid hb0
  have P0 := Lib.hid (Blk4.new (w := w) (a := .int .i64 6) (b := .string (str [])) (c := .int .i64 0) (d := .slice ao l.length cp) rfl)
  have H := Lib.hid (show Calls Tryd.prog 17 #[.agg #[.int .i64 6, .string (str []), .int .i64 0, .slice ao l.length cp]] _ (MayEnd 8 (.mk 6 [] 0 l) _) from refMay8_any (.mk 6 [] 0 l) (.slice ao l.length cp) F (w.alloc (.cells #[.int .i64 6, .string (str []), .int .i64 0, .slice ao l.length cp] 24)) hok (hL.later hb0))
  unfold MayEnd at H
  rw [hm8] at H
  have HL := Lib.hid hL
  have HP := Lib.hid hp
  have IH := Lib.hid ih
  have HM := Lib.hid hm
  have HLEN := Lib.hid hlen
  have hlc := enc_all l d 0
  have hll : l.length ≤ 1073741824 := by omega
  clear hb0 hp hL ih hm hm8 hlen hok hlc
  go_enter Tryd.func12, Tryd.ntmps12
  go_wp2_with fail
  ((with_reducible refine H.out.mono ?_); rintro e w1 ⟨rfl, b1⟩)
  have HB1 := Lib.hid (HB0.out.trans (b1.mono HB0.out.size))
  have P1 := Lib.hid (P0.out.later b1)
  obtain ⟨p0, p1, p2, p3⟩ := P1.out.cells
  clear b1
  go_wp2_with fail
  clear p0 p1 p2 p3
  go_loopw [3, 4] (fun s i wr => ∃ (j : Nat) (q : List UInt8), j ≤ l.length ∧ i = .int .i64 j ∧ s = .string (str q) ∧ Hid (q = 91 :: Lib.join ((l.map (Pl.showL d)).take j) [44, 32]) ∧ Hid (Blk4 wr w.heap.size (.int .i64 6) (.string (str [])) (.int .i64 0) (.slice ao l.length cp)) ∧ Hid (Below w.heap.size w wr)) (fun _ i _ => l.length - (intOf i).toNat)
  case atStart => exact ⟨0, [91], Nat.zero_le _, rfl, rfl, (by show _ = _; rw [List.take_zero, Lib.join_nil]), P1.out, HB1.out⟩
  case round =>
    obtain ⟨j, q, hj, rfl, rfl, HQ, HP4, HB⟩ := hrel
    obtain ⟨p0, p1, p2, p3⟩ := HP4.out.cells
    have hjb := join_bound HM.out j
    rw [List.map_take] at hjb
    have hql : q.length ≤ 4294967300 := by rw [HQ.out, List.length_cons]; have := HLEN.out; omega
    have hqs : (str q).size ≤ 4294967300 := by rw [str_size]; exact hql
    by_cases hlt : j < l.length
    · have hLr := HL.out.later HB.out
      obtain ⟨g, off, r, lv1, rfl, hg, hr, hok1, k0, k1, k2, k3, hLe⟩ := hLr.at hlt
      obtain ⟨aj, cj, rfl⟩ := hLe.shape
      have hrm := List.mem_of_getElem? hr
      have henc := enc_item (d := d) hr 0
      have hsh := Pl.show_enc d r (HM.out r hrm)
      have HI := Lib.hid (IH.out r (.slice aj r.l.length cj) F _ hok1 hLe (HM.out r hrm) (by have := HLEN.out; omega) (HP.out.kept (B := 0) HB.out))
      unfold ShowEnd at HI
      have hss : (str (Pl.showL d r)).size ≤ 4294967300 := by rw [str_size]; have := HLEN.out; omega
      have hlt' : (j : Int) < (l.length : Int) := by omega
      have HT : Hid (∀ x, q ++ (if j = 0 then [] else [44, 32]) ++ Pl.showL d r = x → x = 91 :: Lib.join ((l.map (Pl.showL d)).take (j + 1)) [44, 32]) := (by
        show ∀ x, _ = _ → _
        rintro x rfl
        have e : (l.map (Pl.showL d)).take (j + 1) = (l.map (Pl.showL d)).take j ++ [Pl.showL d r] := by rw [List.take_add_one, List.getElem?_map, hr]; rfl
        rw [e, Pl.join_snoc, HQ.out]
        have e2 : ((l.map (Pl.showL d)).take j).isEmpty = decide (j = 0) := by
          rcases j with _ | j
          · rfl
          · rcases l with _ | ⟨a, l⟩
            · simp at hlt
            · rfl
        rw [e2]
        by_cases h0 : j = 0 <;> simp [h0])
      clear hLr hLe hok1 henc hsh hjb hql
      rcases Nat.eq_zero_or_pos j with rfl | hpos
      · simp only [Nat.zero_mul, Nat.add_zero] at k0 k1 k2 k3
        go_wp2_with fail
        ((with_reducible refine HI.out.mono ?_); rintro e w5 ⟨rfl, b5⟩)
        have B5 := Lib.hid (HB.out.trans (b5.mono HB.out.size))
        have P5 := Lib.hid (HP4.out.later b5)
        clear b5 p0 p1 p2 p3 k0 k1 k2 k3
        go_wp2
        rw [str_app]
        go_roundw
        case rel => exact ⟨1, _, by omega, by go_num, rfl, (by show _ = _; exact HT.out _ (by simp)), P5.out, B5.out⟩
        case measure => simp [intOf]; omega
      · have hpos' : (0 : Int) < (j : Int) := by omega
        go_wp2_with fail
        ((with_reducible refine HI.out.mono ?_); rintro e w5 ⟨rfl, b5⟩)
        have B5 := Lib.hid (HB.out.trans (b5.mono HB.out.size))
        have P5 := Lib.hid (HP4.out.later b5)
        clear b5 p0 p1 p2 p3 k0 k1 k2 k3
        go_wp2
        rw [show str q ++ (⟨#[44, 32]⟩ : ByteArray) ++ str (Pl.showL d r) = str (q ++ [44, 32] ++ Pl.showL d r) from (congrArg (· ++ str (Pl.showL d r)) (str_app q [44, 32])).trans (str_app _ _)]
        go_roundw
        case rel => exact ⟨j + 1, _, by omega, by go_num, rfl, (by show _ = _; exact HT.out _ (by rw [if_neg (by omega)])), P5.out, B5.out⟩
        case measure => simp [intOf]; omega
    · obtain rfl : j = l.length := by omega
      have hq := HQ.out
      rw [List.take_of_length_le (by rw [List.length_map]; exact Nat.le_refl _)] at hq
      have HQ2 := Lib.hid hq
      clear hq HQ hjb hql
      go_wp2
      rw [show str q ++ (⟨#[93]⟩ : ByteArray) = str (q ++ [93]) from str_app q [93]]
      go_ret
      exact ⟨by rw [HQ2.out]; rfl, HB.out⟩
theorem show_any : ∀ d, d ≤ 8 → ShowOk d
  | d, hd => by
    intro r lv F w hok hL hm hlen hp
    obtain ⟨ao, cp, hv⟩ := hL.shape
    rcases Pl.may_cases hm with hf | ⟨e, rfl, rfl | ⟨l, rfl, hl⟩⟩
    · have h8 : Pl.mayL 8 r = true := Pl.flat_may 8 hf
      rcases Pl.flat_cases hf with ⟨t, rfl, -⟩ | ⟨t, rfl, -⟩ | ⟨n, rfl⟩ | ⟨t, rfl⟩ | rfl <;> subst hv
      · exact show_1 d hd t hok.2.2.1 0 (by omega) (by omega) ao cp w hp h8
      · exact show_2 d hd t hok.2.2.1 0 (by omega) (by omega) ao cp w hp h8
      · exact show_3 d hd [] (by simp) n hok.1 hok.2.1 ao cp w hp h8
      · exact show_4 d hd t hok.2.2.1 0 (by omega) (by omega) ao cp w hp h8
      · exact show_5 d hd [] (by simp) 0 (by omega) (by omega) ao cp w hp h8
    · subst hv
      exact show_7 (e + 1) hd [] (by simp) 0 (by omega) (by omega) ao cp w hp (by have := Pl.may_to (e + 1) _ hm (8 - (e + 1)); rwa [show e + 1 + (8 - (e + 1)) = 8 by omega] at this)
    · exact show_arr e (show_any e (by omega)) l lv F w hok hL hl hlen hp
theorem rshow_any : ∀ d, d ≤ 8 → RShowOk d
  | d, hd => by
    intro r lv F w hok hL hm hlen hp
    obtain ⟨ao, cp, hv⟩ := hL.shape
    have h8 : Pl.mayL 8 r = true := by have := Pl.may_to d _ hm (8 - d); rwa [show d + (8 - d) = 8 by omega] at this
    rcases Pl.may_cases hm with hf | ⟨e, rfl, rfl | ⟨l, rfl, hl⟩⟩
    · rcases Pl.flat_cases hf with ⟨t, rfl, -⟩ | ⟨t, rfl, -⟩ | ⟨n, rfl⟩ | ⟨t, rfl⟩ | rfl <;> subst hv
      · exact rshow_1 d hd t hok.2.2.1 0 (by omega) (by omega) ao cp w hp h8
      · exact rshow_2 d hd t hok.2.2.1 0 (by omega) (by omega) ao cp w hp h8
      · exact rshow_3 d hd [] (by simp) n hok.1 hok.2.1 ao cp w hp h8
      · exact rshow_4 d hd t hok.2.2.1 0 (by omega) (by omega) ao cp w hp h8
      · exact rshow_5 d hd [] (by simp) 0 (by omega) (by omega) ao cp w hp h8
    · subst hv
      exact rshow_7 (e + 1) hd [] (by simp) 0 (by omega) (by omega) ao cp w hp h8
    · exact rshow_arr e (by omega) (rshow_any e (by omega)) l lv F w hok hL hl h8 hlen hp
end Go.Proofs.YtpngmbdchceikaaDoor
