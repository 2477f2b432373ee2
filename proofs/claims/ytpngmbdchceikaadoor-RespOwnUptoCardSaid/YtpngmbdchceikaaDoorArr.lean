/- array: the program's. -/
import Derived.Test.YtpngmbdchceikaaDoorBulk
namespace Go.Proofs.YtpngmbdchceikaaDoor
open Go.ChangeShapes Go.WideShapes Go.ChangeAt Go.RowKit
open Pl (R Rd)
set_option linter.unusedVariables false

/-- read, with so many arrays left. -/
def ReadOk (S : ByteArray) (d : Nat) : Prop := ∀ (p : Nat), p ≤ S.size → ∀ w : World, Env w → Calls Tryd.prog 36 #[.string S, .int .i64 p, .int .i64 d] w (RdEnd w p (Pl.rd d (S.data.toList.drop p)))
/-- array, with so many arrays left; p: where the sign stands. -/
def ArrOk (S : ByteArray) (d : Nat) : Prop := ∀ (p : Nat), p + 1 ≤ S.size → (∀ c, S.data.toList[p]? = some c → c ≠ 13) → ∀ w : World, Env w → Calls Tryd.prog 47 #[.string S, .int .i64 ((p : Int) + 1), .int .i64 d] w (RdEnd w p (Pl.rdArr (Pl.subR d) (S.data.toList.drop (p + 1))))
set_option maxRecDepth 100000 in
theorem arr_0 (S : ByteArray) : ArrOk S 0 := by
  intro p hp hpre w hE
  have X0 := Lib.hid (Blk4.new (w := w) (a := .int .i64 0) (b := .string ⟨#[]⟩) (c := .int .i64 0) (d := .slice none 0 0) rfl)
  have B4 := Lib.hid (show Below w.heap.size w (w.alloc (.cells #[.int .i64 0, .string ⟨#[]⟩, .int .i64 0, .slice none 0 0] 24)) from (Below.refl _ _).alloc (Nat.le_refl _) _)
  obtain ⟨x0, x1, x2, x3⟩ := X0.out.cells
  have x4 := fun i => X0.out.free i
  have HX : Hid (Pl.rdArr (Pl.subR 0) (S.data.toList.drop (p + 1)) = .bad) := (by show _ = _; rfl)
  show Calls Tryd.prog 47 #[.string S, .int .i64 ((p : Int) + 1), .int .i64 0] w _
  clear hE hpre
  go_enter Tryd.func47, Tryd.ntmps47
  go_wp2
  exact bodyPost_ret (read_end rfl rfl X0.out) rfl (RdEnd.isBad HX.out B4.out)
theorem hlen0 (S : ByteArray) (q : Nat) : (S.data.toList.drop q).length = S.size - q := by rw [List.length_drop]; simp
set_option maxRecDepth 100000 in
set_option maxHeartbeats 3200000 in
theorem arr_s (S : ByteArray) (hS : S.size ≤ 1073741824) (d : Nat) (hd : d < 8) (ih : ReadOk S d) : ArrOk S (d + 1) := by
  intro p hp hpre w hE
  have hn := fun W (h : Env W) => length_any S hS (p + 1) hp (by omega) (by simpa using hpre) W h
  have ha : Below w.heap.size w (w.alloc (.cells #[.int .i64 0, .string ⟨#[]⟩, .int .i64 0, .slice none 0 0] 24)) := (Below.refl _ _).alloc (Nat.le_refl _) _
  have A0 := Lib.hid ha
  have E0 := Lib.hid (hE.kept ha)
  have IH := Lib.hid ih
  have X0 := Lib.hid (Blk4.new (w := w) (a := .int .i64 0) (b := .string ⟨#[]⟩) (c := .int .i64 0) (d := .slice none 0 0) rfl)
  have hlen : (S.data.toList.drop (p + 1)).length = S.size - (p + 1) := by rw [List.length_drop]; simp
  have h5 : ((d : Int) + 1 == 0) = false := by rw [beq_eq_false_iff_ne]; omega
  unfold numV at hn
  rw [show ((p + 1 : Nat) : Int) = (p : Int) + 1 by omega] at hn
  rw [show ((d + 1 : Nat) : Int) = (d : Int) + 1 by omega]
  clear hE ha hpre ih
  cases hl : Pl.numS (-1) 2147483647 (S.data.toList.drop (p + 1)) with
  | bad =>
    rw [hl] at hn
    have HN := Lib.hid hn
    have HX : Hid (Pl.rdArr (Pl.subR (d + 1)) (S.data.toList.drop (p + 1)) = .bad) := (by show _ = _; unfold Pl.rdArr Pl.subR; simp only; rw [hl])
    clear hn hl hlen
    go_enter Tryd.func47, Tryd.ntmps47
    go_wp2_with fail
    ((with_reducible refine (HN.out _ E0.out).mono ?_); rintro e w4 ⟨rfl, b4⟩)
    have B4 := Lib.hid (A0.out.trans (b4.mono A0.out.size))
    have E4 := Lib.hid (E0.out.kept b4)
    have X4 := Lib.hid (X0.out.later b4)
    obtain ⟨x0, x1, x2, x3⟩ := X4.out.cells
    have x4 := fun i => X4.out.free i
    clear b4
    go_wp2
    exact bodyPost_ret (read_end rfl rfl ((((X4.out.set0 _).set1 _).set2 _).set3 _)) rfl (RdEnd.isBad HX.out (below4 B4.out (Nat.le_refl _) _ _ _ _))
  | more =>
    rw [hl] at hn
    have HN := Lib.hid hn
    have HX : Hid (Pl.rdArr (Pl.subR (d + 1)) (S.data.toList.drop (p + 1)) = .more) := (by show _ = _; unfold Pl.rdArr Pl.subR; simp only; rw [hl])
    clear hn hl hlen
    go_enter Tryd.func47, Tryd.ntmps47
    go_wp2_with fail
    ((with_reducible refine (HN.out _ E0.out).mono ?_); rintro e w4 ⟨rfl, b4⟩)
    have B4 := Lib.hid (A0.out.trans (b4.mono A0.out.size))
    have E4 := Lib.hid (E0.out.kept b4)
    have X4 := Lib.hid (X0.out.later b4)
    obtain ⟨x0, x1, x2, x3⟩ := X4.out.cells
    have x4 := fun i => X4.out.free i
    clear b4
    go_wp2
    exact bodyPost_ret (read_end rfl rfl ((((X4.out.set0 _).set1 _).set2 _).set3 _)) rfl (RdEnd.isMore HX.out (below4 B4.out (Nat.le_refl _) _ _ _ _))
  | ok n k =>
    rw [hl] at hn
    simp only at hn
    have HN := Lib.hid hn
    obtain ⟨_, -, -, n1, n2, -, -, hk⟩ := Pl.numS_ok hl
    rw [hlen] at hk
    by_cases hneg : n < 0
    · have HX : Hid (Pl.rdArr (Pl.subR (d + 1)) (S.data.toList.drop (p + 1)) = .ok (.mk 7 [] 0 []) (k + 1)) := (by show _ = _; unfold Pl.rdArr Pl.subR; simp only; rw [hl]; simp only; rw [if_pos hneg])
      clear hn hl hlen
      go_enter Tryd.func47, Tryd.ntmps47
      go_wp2_with fail
      ((with_reducible refine (HN.out _ E0.out).mono ?_); rintro e w4 ⟨rfl, b4⟩)
      have B4 := Lib.hid (A0.out.trans (b4.mono A0.out.size))
      have E4 := Lib.hid (E0.out.kept b4)
      have X4 := Lib.hid (X0.out.later b4)
      obtain ⟨x0, x1, x2, x3⟩ := X4.out.cells
      have x4 := fun i => X4.out.free i
      clear b4
      go_wp2
      exact bodyPost_ret (read_end rfl rfl ((((X4.out.set0 _).set1 _).set2 _).set3 _)) rfl (RdEnd.isOk HX.out (by simp only [Int.natCast_add]; omega) (RRow.nil _ _) (below4 B4.out (Nat.le_refl _) _ _ _ _))
    obtain ⟨m, rfl⟩ : ∃ m : Nat, n = m := ⟨n.toNat, by omega⟩
    have HX : Hid (Pl.rdArr (Pl.subR (d + 1)) (S.data.toList.drop (p + 1)) = Pl.rdN (Pl.rd d) m (S.data.toList.drop (p + 1 + k)) [] (k + 1)) := (by show _ = _; unfold Pl.rdArr Pl.subR; simp only; rw [hl]; simp only; rw [if_neg hneg, Int.toNat_natCast, List.drop_drop])
    have hm0 : (0 : Int) ≤ (m : Int) := by omega
    clear hn hl hlen
    go_enter Tryd.func47, Tryd.ntmps47
    go_wp2_with fail
    ((with_reducible refine (HN.out _ E0.out).mono ?_); rintro e w4 ⟨rfl, b4⟩)
    have B4 := Lib.hid (A0.out.trans (b4.mono A0.out.size))
    have E4 := Lib.hid (E0.out.kept b4)
    have X4 := Lib.hid (X0.out.later b4)
    obtain ⟨x0, x1, x2, x3⟩ := X4.out.cells
    have x4 := fun i => X4.out.free i
    clear b4
    go_wp2_with fail
    go_loopw [10, 36] (fun o i wr => ∃ (q j : Nat) (v : Value) (acc : List R), o = .int .i64 q ∧ i = .int .i64 j ∧ q ≤ S.size ∧ p + 1 + acc.length ≤ q ∧ j ≤ m ∧ Hid (Pl.rdArr (Pl.subR (d + 1)) (S.data.toList.drop (p + 1)) = Pl.rdN (Pl.rd d) (m - j) (S.data.toList.drop q) acc (q - p)) ∧ Hid (Blk4 wr w.heap.size (.int .i64 0) (.string ⟨#[]⟩) (.int .i64 0) (.slice none 0 0)) ∧ Hid (Blk4 wr w4.heap.size (.int .i64 6) (.string ⟨#[]⟩) (.int .i64 0) v) ∧ Hid (RRow (w4.heap.size + 1) wr v acc) ∧ Hid (Below w4.heap.size w4 wr)) (fun _ i _ => m - (intOf i).toNat)
    case atStart =>
      exact ⟨p + 1 + k, 0, _, [], by go_num, rfl, by omega, by simp, Nat.zero_le _, (by show _ = _; rw [HX.out, Nat.sub_zero, show p + 1 + k - p = k + 1 by omega]), X4.out.alloc _, Blk4.new rfl, RRow.nil _ _, (Below.refl _ _).alloc (Nat.le_refl _) _⟩
    case round =>
      obtain ⟨q, j, v, acc, rfl, rfl, hq, hacc, hj, HXj, XA, XB, hrow, hb⟩ := hrel
      have hd0 := hlen0 S q
      by_cases hlt : j < m
      · have hir := IH.out q hq wr (E4.out.kept (hb.out.mono (Nat.le_refl _)))
        have hlt' : (j : Int) < (m : Int) := by omega
        obtain ⟨u, hu⟩ : ∃ u, m - j = u + 1 := ⟨m - j - 1, by omega⟩
        have hXj := HXj.out
        rw [hu, Pl.rdN] at hXj
        have hw4 : w4.heap.size ≤ wr.heap.size := hb.out.size
        cases hx : Pl.rd d (S.data.toList.drop q) with
        | bad =>
          rw [hx] at hir hXj
          have HI : Hid (Calls Tryd.prog 36 #[.string S, .int .i64 q, .int .i64 d] wr fun e w' => e = .returned (.tuple #[zeroR, .int .i64 0, .int .i64 30]) ∧ Below wr.heap.size wr w') := Lib.hid hir
          have HXX := Lib.hid hXj
          clear hir hXj hx hu
          go_wp2_with fail
          ((with_reducible refine HI.out.mono ?_); rintro e w5 ⟨rfl, b5⟩)
          have XA5 := Lib.hid (XA.out.later b5)
          have B5 := Lib.hid (B4.out.trans ((hb.out.trans (b5.mono hw4)).mono B4.out.size))
          clear b5
          obtain ⟨y0, y1, y2, y3⟩ := XA5.out.cells
          have y4 := fun i => XA5.out.free i
          have XA6 := Lib.hid (fun o => XA5.out.alloc o)
          have z4 := fun o => fun i => (XA6.out o).free i
          have z0 := fun o => (XA6.out o).cells
          go_wp2
          exact bodyPost_ret (read_end rfl rfl (((((XA6.out _).set0 _).set1 _).set2 _).set3 _)) rfl (RdEnd.isBad HXX.out (below4 (B5.out.alloc B5.out.size _) (Nat.le_refl _) _ _ _ _))
        | more =>
          rw [hx] at hir hXj
          have HI : Hid (Calls Tryd.prog 36 #[.string S, .int .i64 q, .int .i64 d] wr fun e w' => e = .returned (.tuple #[zeroR, .int .i64 0, .int .i64 31]) ∧ Below wr.heap.size wr w') := Lib.hid hir
          have HXX := Lib.hid hXj
          clear hir hXj hx hu
          go_wp2_with fail
          ((with_reducible refine HI.out.mono ?_); rintro e w5 ⟨rfl, b5⟩)
          have XA5 := Lib.hid (XA.out.later b5)
          have B5 := Lib.hid (B4.out.trans ((hb.out.trans (b5.mono hw4)).mono B4.out.size))
          clear b5
          obtain ⟨y0, y1, y2, y3⟩ := XA5.out.cells
          have y4 := fun i => XA5.out.free i
          have XA6 := Lib.hid (fun o => XA5.out.alloc o)
          have z4 := fun o => fun i => (XA6.out o).free i
          have z0 := fun o => (XA6.out o).cells
          go_wp2
          exact bodyPost_ret (read_end rfl rfl (((((XA6.out _).set0 _).set1 _).set2 _).set3 _)) rfl (RdEnd.isMore HXX.out (below4 (B5.out.alloc B5.out.size _) (Nat.le_refl _) _ _ _ _))
        | ok r kk =>
          rw [hx] at hir hXj
          have HI : Hid (Calls Tryd.prog 36 #[.string S, .int .i64 q, .int .i64 d] wr fun e w' => (∃ lv, e = .returned (.tuple #[rv r lv, .int .i64 ((q : Int) + kk), .int .i64 0]) ∧ RRow wr.heap.size w' lv r.l) ∧ Below wr.heap.size wr w') := Lib.hid hir
          obtain ⟨k1, k2⟩ := ((Pl.rd_ext d).1 _ _ _ hx).1
          rw [hd0] at k2
          obtain ⟨s1, s2, s3, s4⟩ := Pl.rd_small hx
          rw [hd0] at s1 s2
          have hok : OkR r := ⟨s3, s4, by omega, by omega⟩
          have hpq : q - p + kk = q + kk - p := by omega
          have HXX : Hid (Pl.rdArr (Pl.subR (d + 1)) (S.data.toList.drop (p + 1)) = Pl.rdN (Pl.rd d) (m - (j + 1)) (S.data.toList.drop (q + kk)) (acc ++ [r]) (q + kk - p)) := (by show _ = _; rw [hXj]; simp only; rw [List.drop_drop, hpq, show m - (j + 1) = u by omega])
          have hacl : acc.length ≤ 1073741824 := by omega
          have hown := hrow.out.own
          clear hir hXj hx hu s1 s2 s3 s4
          go_wp2_with fail
          ((with_reducible refine HI.out.mono ?_); rintro e w5 ⟨⟨lv, rfl, hrow5⟩, b5⟩)
          have hz5 : wr.heap.size ≤ w5.heap.size := b5.size
          obtain ⟨al, cl, rfl⟩ := hrow5.shape
          have HL5 := Lib.hid hrow5.lis
          have XA5 := Lib.hid (XA.out.later b5)
          have XB5 := Lib.hid (XB.out.later b5)
          have R5 := Lib.hid (hrow.out.later b5)
          have B5 := Lib.hid (hb.out.trans (b5.mono hw4))
          clear b5 hrow5
          have hal : ∀ o, Below w5.heap.size w5 (w5.alloc o) := fun o => (Below.refl _ _).alloc (Nat.le_refl _) _
          have XA6 := Lib.hid (fun o => XA5.out.alloc o)
          have XB6 := Lib.hid (fun o => XB5.out.alloc o)
          have R6 := Lib.hid (fun o => R5.out.later (hal o))
          have L6 := Lib.hid (fun o => HL5.out.later (hal o))
          have B6 := Lib.hid (fun o => B5.out.alloc B5.out.size o)
          have z0 := fun o => (XB6.out o).cells
          have HF := Lib.hid (show ∀ b, wr.heap.size ≤ b → w4.heap.size + 1 ≤ b ∧ v.ownBlock ≠ some b from fun b hb2 => ⟨by have := XB.out.lt; omega, fun e => by have := (hown b e).2; omega⟩)
          have hB4lt := XB.out.lt
          clear hal
          go_wp2_with (at_builtin; refine wpList_append_reply (w5.alloc (.cells #[.int .i64 r.k, .string (str r.t), .int .i64 r.n, .slice al r.l.length cl] 24)) rfl (.tmp 52) (.tmp 54) rfl (w4.heap.size + 1) v acc rfl (R6.out _) r _ _ hok rfl (L6.out _) HF.out (by simp [Act.eval]) hacl (by simp; omega) ?_)
          intro v7 w7 hrow7 hB7 hz7 hk7
          obtain ⟨a7, c7, hv7⟩ := hrow7.shape
          rw [List.length_append] at hv7
          subst hv7
          have hne : ∀ g, g ≤ w4.heap.size → some g ≠ v.ownBlock := fun g hg e => by have := (hown g e.symm).1; omega
          have XA7 := Lib.hid ((XA6.out _).kept (hk7 _ (by have := XA5.out.lt; omega) (hne _ (by have := B4.out.size; omega))))
          have XB7 := Lib.hid ((XB6.out _).kept (hk7 _ (by have := XB5.out.lt; omega) (hne _ (Nat.le_refl _))))
          have B7 := Lib.hid (hB7 _ _ (B6.out _) (by omega))
          have R7 := Lib.hid hrow7
          obtain ⟨t0, t1, t2, t3⟩ := XB7.out.cells
          have t4 := XB7.out.free 3
          clear hrow7 hB7 hk7 z0 hne
          go_wp2
          go_roundw
          case rel =>
            exact ⟨q + kk, j + 1, _, acc ++ [r], by go_num, by go_num, by omega, by rw [List.length_append]; simp; omega, by omega, HXX, XA7.out.kept (heap_setCell_other _ _ _ _ (by have := X4.out.lt; simp; omega)), XB7.out.set3 _, R7.out.set _ (by simp) _, B7.out.setCell (by simp) _⟩
          case measure => simp [intOf]; omega
      · obtain rfl : j = m := by omega
        have hXj := HXj.out
        rw [Nat.sub_self, Pl.rdN] at hXj
        have HXX := Lib.hid hXj
        obtain ⟨av, cv, hv⟩ := hrow.out.shape
        subst hv
        obtain ⟨y0, y1, y2, y3⟩ := XA.out.cells
        have y4 := fun i => XA.out.free i
        obtain ⟨z0, z1, z2, z3⟩ := XB.out.cells
        have hB4s := B4.out.size
        have hlt4 := XA.out.lt
        clear hXj
        go_wp2
        exact bodyPost_ret (read_end rfl rfl ((((XA.out.set0 _).set1 _).set2 _).set3 _)) rfl (RdEnd.isOk (lv := .slice av acc.length cv) HXX.out (by omega) ((((hrow.out.set ⟨w.heap.size, 0, none⟩ (by simp; omega) _).set ⟨w.heap.size, 1, none⟩ (by simp; omega) _).set ⟨w.heap.size, 2, none⟩ (by simp; omega) _).set ⟨w.heap.size, 3, none⟩ (by simp; omega) _ |>.mono (by omega)) (below4 (B4.out.trans (hb.out.mono B4.out.size)) (Nat.le_refl _) _ _ _ _))
end Go.Proofs.YtpngmbdchceikaaDoor
