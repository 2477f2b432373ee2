/- The walk of RespBack. -/
import Derived.Test.YtpngmbdchceikaaDoorRDec
namespace Go.Proofs.YtpngmbdchceikaaDoor
open Go.ChangeShapes Go.WideShapes Go.ChangeAt Go.RowKit
open Pl (R Rd)
set_option linter.unusedVariables false

theorem wf_of : ∀ (d : Nat) (r : R) (lv : Value) (F : Nat → Prop) (w : World), OkR r → LIs F w lv r.l → Pl.wfL d r
  | 0, r, lv, F, w, ⟨a, b, c, e⟩, h => ⟨a, b, by omega, by omega⟩
  | d + 1, r, lv, F, w, ⟨a, b, c, e⟩, h => ⟨a, b, by omega, by omega, fun x hx => by
      obtain ⟨j, hj⟩ := List.getElem?_of_mem hx
      obtain ⟨ao, cp, rfl⟩ := h.shape
      have hlt : j < r.l.length := (List.getElem?_eq_some_iff.1 hj).1
      obtain ⟨g, off, y, lv', -, -, hy, hok, -, -, -, -, hL⟩ := h.at hlt
      obtain rfl : x = y := Option.some.inj (hj.symm.trans hy)
      exact wf_of d x lv' F w hok hL⟩
theorem encV_may {r : R} (h : Pl.mayL 8 r = true) : encV r = .tuple #[.string (str (Pl.encL 8 r)), .int .i64 0] := by unfold encV; rw [if_pos h]
theorem encV_no {r : R} (h : ¬ Pl.mayL 8 r = true) : encV r = .tuple #[.string ⟨#[]⟩, .int .i64 30] := by unfold encV; rw [if_neg h]; rfl
theorem env_p {w : World} (h : Env w) : Pows w := h.1
theorem same_zero (lv : Value) (F : Nat → Prop) (W : World) {r : R} (hr : r = .mk 0 [] 0 []) (h : LIs F W lv r.l) : Calls Tryd.prog 18 #[rv r lv, zeroR] W fun e w' => e = .returned (.bool true) ∧ Below W.heap.size W w' := by
  subst hr
  exact same_any (.mk 0 [] 0 []) lv (.slice none 0 0) F F W (by simp [OkR, R.n, R.t, R.l]) h (.nil _ _)
set_option maxRecDepth 100000 in
set_option maxHeartbeats 6400000 in
theorem respBack_walk (r : R) (lv : Value) (G : Nat → Prop) (S : ByteArray) (hS : S.size ≤ 1048576) (w : World) (hok : OkR r) (hL : LIs G w lv r.l) (hE : Env w) (hlen : (Pl.encL 8 r).length ≤ 67108864) :
    Calls Tryd.prog 6 #[rv r lv, .string S] w fun e w' => e = .returned (.bool true) ∧ Below w.heap.size w w' := by
  have hb0 : Below w.heap.size w (w.alloc (.cells #[.int .i64 r.k, .string (str r.t), .int .i64 r.n, lv] 24)) := (Below.refl _ _).alloc (Nat.le_refl _) _
  have hwf := wf_of 8 r lv G w hok hL
  obtain ⟨ao, cp, rfl⟩ := hL.shape
  have HB0 := Lib.hid hb0
  have P0 := Lib.hid (Blk4.new (w := w) (a := .int .i64 r.k) (b := .string (str r.t)) (c := .int .i64 r.n) (d := .slice ao r.l.length cp) rfl)
  have hen := fun (lv : Value) (F : Nat → Prop) (W : World) (h : LIs F W lv r.l) (hp : Pows W) => encode_any r lv F W hok h hp (fun _ => by omega)
  have HS := Lib.hid (fun (lv lv' : Value) (F F' : Nat → Prop) (W : World) (h : LIs F W lv r.l) (h' : LIs F' W lv' r.l) => same_any r lv lv' F F' W hok h h')
  have HA := Lib.hid (fun W (h : Env W) => awake_any W h)
  have HL := Lib.hid hL
  have HE := Lib.hid hE
  have hsl : S.data.toList.length = S.size := by simp
  -- the second part
  obtain ⟨x, k, c, hx, hk, hc⟩ : ∃ x k c, rdR (Pl.rd 8 S.data.toList) = x ∧ rdK (Pl.rd 8 S.data.toList) = k ∧ rdE (Pl.rd 8 S.data.toList) = c := ⟨_, _, _, rfl, rfl, rfl⟩
  have hd2 := fun W h => decode_uni S (by omega) hx hk hc W h
  unfold RdUni at hd2
  by_cases hc0 : c = 0
  · subst hc0
    obtain ⟨m, hrd, rfl⟩ : ∃ m, Pl.rd 8 S.data.toList = .ok x m ∧ k = (m : Int) := by
      cases h : Pl.rd 8 S.data.toList with
      | bad => rw [h] at hc; cases hc
      | more => rw [h] at hc; cases hc
      | ok y m => rw [h] at hx hk; exact ⟨m, by rw [← hx]; rfl, hk.symm⟩
    obtain ⟨f1, f2⟩ := Pl.rd_forth 8 _ _ _ hrd
    obtain ⟨⟨-, f3⟩, -⟩ := (Pl.rd_ext 8).1 _ _ _ hrd
    rw [hsl] at f3
    have hokx : OkR x := by
      obtain ⟨a1, a2, a3, a4⟩ := Pl.rd_small hrd
      exact ⟨a3, a4, by omega, by omega⟩
    have hst : str (Pl.encL 8 x) = S.extract 0 m := by
      rw [f2]
      have := sub_take S 0 m
      simp only [Nat.zero_add, List.drop_zero] at this
      rw [← this, str_of]
    have hex := fun (lv : Value) (F : Nat → Prop) (W : World) (h : LIs F W lv x.l) (hp : Pows W) => encode_any x lv F W hokx h hp (fun _ => by rw [f2, List.length_take]; omega)
    rw [encV_may f1, hst] at hex
    have HEx := Lib.hid hex
    have HD2 := Lib.hid hd2
    have hm1 : (m : Int) ≤ S.size := by omega
    clear hex hst hd2 hrd f1 f2 hx hk hc hokx hL hE
    by_cases hmay : Pl.mayL 8 r = true
    · rw [encV_may hmay] at hen
      have hb := Pl.rd_back 8 r hmay hwf S.data.toList
      obtain ⟨T, hT⟩ : ∃ T, str (Pl.encL 8 r) = T := ⟨_, rfl⟩
      have hTs : T.size = (Pl.encL 8 r).length := by rw [← hT, str_size]
      have hT1 : T.size ≤ 67108864 := by omega
      have hTd : (T ++ S).data.toList = Pl.encL 8 r ++ S.data.toList := by rw [← hT]; simp [str]
      rw [← hTd] at hb
      have hd1 := fun W h => decode_uni (T ++ S) (by rw [ByteArray.size_append]; omega) (show rdR (Pl.rd 8 (T ++ S).data.toList) = r by rw [hb]; rfl) (show rdK (Pl.rd 8 (T ++ S).data.toList) = T.size by rw [hb, hTs]; rfl) (show rdE (Pl.rd 8 (T ++ S).data.toList) = 0 by rw [hb]; rfl) W h
      unfold RdUni at hd1
      rw [hT] at hen
      have HEn := Lib.hid hen
      have HD1 := Lib.hid hd1
      clear hen hd1 hb hTd hT hTs hwf hmay hok hb0 hsl
      go_enter Tryd.func6, Tryd.ntmps6
      go_wp2_with fail
      ((with_reducible refine (HEn.out _ _ _ (HL.out.later HB0.out) (env_p (HE.out.kept HB0.out))).mono ?_); rintro e w1 ⟨rfl, b1⟩)
      have B1 := Lib.hid (HB0.out.trans (b1.mono HB0.out.size))
      have P1 := Lib.hid (P0.out.later b1)
      clear b1
      go_wp2_with fail
      ((with_reducible refine (HD1.out _ (HE.out.kept B1.out)).mono ?_); rintro e w2 ⟨⟨lv2, rfl, r2⟩, b2⟩)
      obtain ⟨a2, c2, rfl⟩ := r2.shape
      have hg := B1.out.size
      have hP1 := P1.out.lt
      have hb3 : Below w2.heap.size w2 (w2.alloc (.cells #[.int .i64 r.k, .string (str r.t), .int .i64 r.n, .slice a2 r.l.length c2] 24)) := (Below.refl _ _).alloc (Nat.le_refl _) _
      have B3 := Lib.hid ((B1.out.trans (b2.mono B1.out.size)).trans (hb3.mono (Nat.le_trans B1.out.size b2.size)))
      have L3 := Lib.hid (r2.lis.later hb3)
      have M3 := Lib.hid (HL.out.later B3.out)
      have P3 := Lib.hid ((P1.out.later b2).later hb3)
      have G3 := Lib.hid (Blk4.new (w := w2) (a := .int .i64 r.k) (b := .string (str r.t)) (c := .int .i64 r.n) (d := .slice a2 r.l.length c2) rfl)
      clear r2 b2 hb3
      obtain ⟨p0, p1, p2, p3⟩ := P3.out.cells
      obtain ⟨g0, g1, g2, g3⟩ := G3.out.cells
      go_wp2_with fail
      ((with_reducible refine (HS.out _ _ _ _ _ L3.out M3.out).mono ?_); rintro e w4 ⟨rfl, b4⟩)
      have B4 := Lib.hid (B3.out.trans (b4.mono B3.out.size))
      clear b4 p0 p1 p2 p3 g0 g1 g2 g3
      go_wp2_with fail
      ((with_reducible refine (HD2.out _ (HE.out.kept B4.out)).mono ?_); rintro e w5 ⟨⟨lv5, rfl, r5⟩, b5⟩)
      obtain ⟨a5, c5, rfl⟩ := r5.shape
      have hb6 : Below w5.heap.size w5 (w5.alloc (.cells #[.int .i64 x.k, .string (str x.t), .int .i64 x.n, .slice a5 x.l.length c5] 24)) := (Below.refl _ _).alloc (Nat.le_refl _) _
      have B6 := Lib.hid ((B4.out.trans (b5.mono B4.out.size)).trans (hb6.mono (Nat.le_trans B4.out.size b5.size)))
      have L6 := Lib.hid (r5.lis.later hb6)
      have G6 := Lib.hid (Blk4.new (w := w5) (a := .int .i64 x.k) (b := .string (str x.t)) (c := .int .i64 x.n) (d := .slice a5 x.l.length c5) rfl)
      clear r5 b5 hb6
      obtain ⟨g0, g1, g2, g3⟩ := G6.out.cells
      go_wp2_with fail
      ((with_reducible refine (HEx.out _ _ _ L6.out (env_p (HE.out.kept B6.out))).mono ?_); rintro e w7 ⟨rfl, b7⟩)
      have B7 := Lib.hid (B6.out.trans (b7.mono B6.out.size))
      clear b7 g0 g1 g2 g3
      go_wp2_with fail
      ((with_reducible refine (HA.out _ (HE.out.kept B7.out)).mono ?_); rintro e w8 ⟨rfl, b8⟩)
      go_wp2
      go_ret
      exact ⟨rfl, B7.out.trans (b8.mono B7.out.size)⟩
    · rw [encV_no hmay] at hen
      have HEn := Lib.hid hen
      clear hen hwf hmay hok hb0 hsl
      go_enter Tryd.func6, Tryd.ntmps6
      go_wp2_with fail
      ((with_reducible refine (HEn.out _ _ _ (HL.out.later HB0.out) (env_p (HE.out.kept HB0.out))).mono ?_); rintro e w1 ⟨rfl, b1⟩)
      have B1 := Lib.hid (HB0.out.trans (b1.mono HB0.out.size))
      have P1 := Lib.hid (P0.out.later b1)
      clear b1
      have B4 := B1
      go_wp2_with fail
      ((with_reducible refine (HD2.out _ (HE.out.kept B4.out)).mono ?_); rintro e w5 ⟨⟨lv5, rfl, r5⟩, b5⟩)
      obtain ⟨a5, c5, rfl⟩ := r5.shape
      have hb6 : Below w5.heap.size w5 (w5.alloc (.cells #[.int .i64 x.k, .string (str x.t), .int .i64 x.n, .slice a5 x.l.length c5] 24)) := (Below.refl _ _).alloc (Nat.le_refl _) _
      have B6 := Lib.hid ((B4.out.trans (b5.mono B4.out.size)).trans (hb6.mono (Nat.le_trans B4.out.size b5.size)))
      have L6 := Lib.hid (r5.lis.later hb6)
      have G6 := Lib.hid (Blk4.new (w := w5) (a := .int .i64 x.k) (b := .string (str x.t)) (c := .int .i64 x.n) (d := .slice a5 x.l.length c5) rfl)
      clear r5 b5 hb6
      obtain ⟨g0, g1, g2, g3⟩ := G6.out.cells
      go_wp2_with fail
      ((with_reducible refine (HEx.out _ _ _ L6.out (env_p (HE.out.kept B6.out))).mono ?_); rintro e w7 ⟨rfl, b7⟩)
      have B7 := Lib.hid (B6.out.trans (b7.mono B6.out.size))
      clear b7 g0 g1 g2 g3
      go_wp2_with fail
      ((with_reducible refine (HA.out _ (HE.out.kept B7.out)).mono ?_); rintro e w8 ⟨rfl, b8⟩)
      go_wp2
      go_ret
      exact ⟨rfl, B7.out.trans (b8.mono B7.out.size)⟩
  · have hkx : k = 0 ∧ x = .mk 0 [] 0 [] := by
      cases h : Pl.rd 8 S.data.toList with
      | bad => rw [h] at hx hk; exact ⟨hk.symm, hx.symm⟩
      | more => rw [h] at hx hk; exact ⟨hk.symm, hx.symm⟩
      | ok y m => rw [h] at hc; exact absurd hc.symm hc0
    obtain ⟨rfl, hx0⟩ := hkx
    have HZ := Lib.hid (fun (lv : Value) (F : Nat → Prop) (W : World) (h : LIs F W lv x.l) => same_zero lv F W hx0 h)
    have HD2 := Lib.hid hd2
    have hcn : (c == 0) = false := by rw [beq_eq_false_iff_ne]; exact hc0
    have hcn2 : (c != 0) = true := by rw [bne_iff_ne]; exact hc0
    clear hd2 hx hk hc hx0 hL hE
    by_cases hmay : Pl.mayL 8 r = true
    · rw [encV_may hmay] at hen
      have hb := Pl.rd_back 8 r hmay hwf S.data.toList
      obtain ⟨T, hT⟩ : ∃ T, str (Pl.encL 8 r) = T := ⟨_, rfl⟩
      have hTs : T.size = (Pl.encL 8 r).length := by rw [← hT, str_size]
      have hT1 : T.size ≤ 67108864 := by omega
      have hTd : (T ++ S).data.toList = Pl.encL 8 r ++ S.data.toList := by rw [← hT]; simp [str]
      rw [← hTd] at hb
      have hd1 := fun W h => decode_uni (T ++ S) (by rw [ByteArray.size_append]; omega) (show rdR (Pl.rd 8 (T ++ S).data.toList) = r by rw [hb]; rfl) (show rdK (Pl.rd 8 (T ++ S).data.toList) = T.size by rw [hb, hTs]; rfl) (show rdE (Pl.rd 8 (T ++ S).data.toList) = 0 by rw [hb]; rfl) W h
      unfold RdUni at hd1
      rw [hT] at hen
      have HEn := Lib.hid hen
      have HD1 := Lib.hid hd1
      clear hen hd1 hb hTd hT hTs hwf hmay hok hb0 hsl
      go_enter Tryd.func6, Tryd.ntmps6
      go_wp2_with fail
      ((with_reducible refine (HEn.out _ _ _ (HL.out.later HB0.out) (env_p (HE.out.kept HB0.out))).mono ?_); rintro e w1 ⟨rfl, b1⟩)
      have B1 := Lib.hid (HB0.out.trans (b1.mono HB0.out.size))
      have P1 := Lib.hid (P0.out.later b1)
      clear b1
      go_wp2_with fail
      ((with_reducible refine (HD1.out _ (HE.out.kept B1.out)).mono ?_); rintro e w2 ⟨⟨lv2, rfl, r2⟩, b2⟩)
      obtain ⟨a2, c2, rfl⟩ := r2.shape
      have hg := B1.out.size
      have hP1 := P1.out.lt
      have hb3 : Below w2.heap.size w2 (w2.alloc (.cells #[.int .i64 r.k, .string (str r.t), .int .i64 r.n, .slice a2 r.l.length c2] 24)) := (Below.refl _ _).alloc (Nat.le_refl _) _
      have B3 := Lib.hid ((B1.out.trans (b2.mono B1.out.size)).trans (hb3.mono (Nat.le_trans B1.out.size b2.size)))
      have L3 := Lib.hid (r2.lis.later hb3)
      have M3 := Lib.hid (HL.out.later B3.out)
      have P3 := Lib.hid ((P1.out.later b2).later hb3)
      have G3 := Lib.hid (Blk4.new (w := w2) (a := .int .i64 r.k) (b := .string (str r.t)) (c := .int .i64 r.n) (d := .slice a2 r.l.length c2) rfl)
      clear r2 b2 hb3
      obtain ⟨p0, p1, p2, p3⟩ := P3.out.cells
      obtain ⟨g0, g1, g2, g3⟩ := G3.out.cells
      go_wp2_with fail
      ((with_reducible refine (HS.out _ _ _ _ _ L3.out M3.out).mono ?_); rintro e w4 ⟨rfl, b4⟩)
      have B4 := Lib.hid (B3.out.trans (b4.mono B3.out.size))
      clear b4 p0 p1 p2 p3 g0 g1 g2 g3
      go_wp2_with fail
      ((with_reducible refine (HD2.out _ (HE.out.kept B4.out)).mono ?_); rintro e w5 ⟨⟨lv5, rfl, r5⟩, b5⟩)
      obtain ⟨a5, c5, rfl⟩ := r5.shape
      have hb6 : Below w5.heap.size w5 (w5.alloc (.cells #[.int .i64 x.k, .string (str x.t), .int .i64 x.n, .slice a5 x.l.length c5] 24)) := (Below.refl _ _).alloc (Nat.le_refl _) _
      have B6 := Lib.hid ((B4.out.trans (b5.mono B4.out.size)).trans (hb6.mono (Nat.le_trans B4.out.size b5.size)))
      have L6 := Lib.hid (r5.lis.later hb6)
      have G6 := Lib.hid (Blk4.new (w := w5) (a := .int .i64 x.k) (b := .string (str x.t)) (c := .int .i64 x.n) (d := .slice a5 x.l.length c5) rfl)
      clear r5 b5 hb6
      obtain ⟨g0, g1, g2, g3⟩ := G6.out.cells
      go_wp2_with fail
      ((with_reducible refine (HZ.out _ _ _ L6.out).mono ?_); rintro e w7 ⟨rfl, b7⟩)
      have B7 := Lib.hid (B6.out.trans (b7.mono B6.out.size))
      clear b7 g0 g1 g2 g3
      go_wp2_with fail
      ((with_reducible refine (HA.out _ (HE.out.kept B7.out)).mono ?_); rintro e w8 ⟨rfl, b8⟩)
      go_wp2
      go_ret
      exact ⟨rfl, B7.out.trans (b8.mono B7.out.size)⟩
    · rw [encV_no hmay] at hen
      have HEn := Lib.hid hen
      clear hen hwf hmay hok hb0 hsl
      go_enter Tryd.func6, Tryd.ntmps6
      go_wp2_with fail
      ((with_reducible refine (HEn.out _ _ _ (HL.out.later HB0.out) (env_p (HE.out.kept HB0.out))).mono ?_); rintro e w1 ⟨rfl, b1⟩)
      have B1 := Lib.hid (HB0.out.trans (b1.mono HB0.out.size))
      have P1 := Lib.hid (P0.out.later b1)
      clear b1
      have B4 := B1
      go_wp2_with fail
      ((with_reducible refine (HD2.out _ (HE.out.kept B4.out)).mono ?_); rintro e w5 ⟨⟨lv5, rfl, r5⟩, b5⟩)
      obtain ⟨a5, c5, rfl⟩ := r5.shape
      have hb6 : Below w5.heap.size w5 (w5.alloc (.cells #[.int .i64 x.k, .string (str x.t), .int .i64 x.n, .slice a5 x.l.length c5] 24)) := (Below.refl _ _).alloc (Nat.le_refl _) _
      have B6 := Lib.hid ((B4.out.trans (b5.mono B4.out.size)).trans (hb6.mono (Nat.le_trans B4.out.size b5.size)))
      have L6 := Lib.hid (r5.lis.later hb6)
      have G6 := Lib.hid (Blk4.new (w := w5) (a := .int .i64 x.k) (b := .string (str x.t)) (c := .int .i64 x.n) (d := .slice a5 x.l.length c5) rfl)
      clear r5 b5 hb6
      obtain ⟨g0, g1, g2, g3⟩ := G6.out.cells
      go_wp2_with fail
      ((with_reducible refine (HZ.out _ _ _ L6.out).mono ?_); rintro e w7 ⟨rfl, b7⟩)
      have B7 := Lib.hid (B6.out.trans (b7.mono B6.out.size))
      clear b7 g0 g1 g2 g3
      go_wp2_with fail
      ((with_reducible refine (HA.out _ (HE.out.kept B7.out)).mono ?_); rintro e w8 ⟨rfl, b8⟩)
      go_wp2
      go_ret
      exact ⟨rfl, B7.out.trans (b8.mono B7.out.size)⟩
end Go.Proofs.YtpngmbdchceikaaDoor
