/- read: the reference's. -/
import Derived.Test.YtpngmbdchceikaaDoorRBulk
import Derived.Test.YtpngmbdchceikaaDoorRead
namespace Go.Proofs.YtpngmbdchceikaaDoor
open Go.ChangeShapes Go.WideShapes Go.ChangeAt Go.RowKit
open Pl (R Rd)
set_option linter.unusedVariables false
set_option linter.unusedSectionVars false

/-- read, with so many arrays left. -/
def RReadOk (S : ByteArray) (d : Nat) : Prop := ∀ (p : Nat), p ≤ S.size → ∀ w : World, Calls Tryd.prog 37 #[.string S, .int .i64 p, .int .i64 d] w (RdEnd w p (Pl.rd d (S.data.toList.drop p)))
abbrev zeroB : Obj := .cells #[.int .i64 0, .string ⟨#[]⟩, .int .i64 0, .slice none 0 0] 24
theorem two_below (w : World) : Below w.heap.size w ((w.alloc zeroB).alloc zeroB) := ((Below.refl _ _).alloc (Nat.le_refl _) _).alloc (by simp) _
theorem two_first (w : World) : Blk4 ((w.alloc zeroB).alloc zeroB) w.heap.size (.int .i64 0) (.string ⟨#[]⟩) (.int .i64 0) (.slice none 0 0) := (Blk4.new rfl).alloc _
theorem two_next (w : World) : Blk4 ((w.alloc zeroB).alloc zeroB) (w.heap.size + 1) (.int .i64 0) (.string ⟨#[]⟩) (.int .i64 0) (.slice none 0 0) := Blk4.new (by simp)
section
variable (S : ByteArray) (hS : S.size ≤ 1073741824) (d : Nat) (hd : d ≤ 8) (p : Nat) (hp : p < S.size) (w : World)
include hS hd hp
set_option maxRecDepth 100000 in
set_option maxHeartbeats 3200000 in
theorem rread_line (kk : Int) (cc : Nat) (hk : (kk = 1 ∧ cc = 43) ∨ (kk = 2 ∧ cc = 45)) (hc : ((S[p]'hp).toNat : Int) = cc) (hrd : Pl.rd d (S.data.toList.drop p) = Pl.rdLine kk (S.data.toList.drop (p + 1))) :
    Calls Tryd.prog 37 #[.string S, .int .i64 p, .int .i64 d] w (RdEnd w p (Pl.rd d (S.data.toList.drop p))) := by
  have hn := fun W => refLine_any S hS (p + 1) (by omega) W
  unfold Pl.rdLine at hrd
  cases hl : Pl.lineS (S.data.toList.drop (p + 1)) with
  | bad =>
    rw [hl] at hn hrd
    simp only [lnV] at hn hrd
    rw [show ((p + 1 : Nat) : Int) = (p : Int) + 1 by omega] at hn
    have HN := Lib.hid hn
    have HX := Lib.hid hrd
    clear hn hl hrd
    rcases hk with ⟨rfl, rfl⟩ | ⟨rfl, rfl⟩
    all_goals
      have A0 := Lib.hid (two_below w)
      have X0 := Lib.hid (two_first w)
      have N0 := Lib.hid (two_next w)
      go_enter Tryd.func37, Tryd.ntmps37
      go_wp2_with fail
      ((with_reducible refine (HN.out _).mono ?_); rintro e w4 ⟨rfl, b4⟩)
      have X4 := Lib.hid (X0.out.later b4)
      have N4 := Lib.hid (N0.out.later b4)
      have B4 := Lib.hid (A0.out.trans (b4.mono A0.out.size))
      obtain ⟨x0, x1, x2, x3⟩ := X4.out.cells
      obtain ⟨n0, n1, n2, n3⟩ := N4.out.cells
      have x4 := fun i => X4.out.free i
      clear b4
      go_wp2
      exact bodyPost_ret (read_end rfl rfl ((((X4.out.set0 _).set1 _).set2 _).set3 _)) rfl (RdEnd.isBad HX.out (below4 B4.out (Nat.le_refl _) _ _ _ _))
  | cut =>
    rw [hl] at hn hrd
    simp only [lnV] at hn hrd
    rw [show ((p + 1 : Nat) : Int) = (p : Int) + 1 by omega] at hn
    have HN := Lib.hid hn
    have HX := Lib.hid hrd
    clear hn hl hrd
    rcases hk with ⟨rfl, rfl⟩ | ⟨rfl, rfl⟩
    all_goals
      have A0 := Lib.hid (two_below w)
      have X0 := Lib.hid (two_first w)
      have N0 := Lib.hid (two_next w)
      go_enter Tryd.func37, Tryd.ntmps37
      go_wp2_with fail
      ((with_reducible refine (HN.out _).mono ?_); rintro e w4 ⟨rfl, b4⟩)
      have X4 := Lib.hid (X0.out.later b4)
      have N4 := Lib.hid (N0.out.later b4)
      have B4 := Lib.hid (A0.out.trans (b4.mono A0.out.size))
      obtain ⟨x0, x1, x2, x3⟩ := X4.out.cells
      obtain ⟨n0, n1, n2, n3⟩ := N4.out.cells
      have x4 := fun i => X4.out.free i
      clear b4
      go_wp2
      exact bodyPost_ret (read_end rfl rfl ((((X4.out.set0 _).set1 _).set2 _).set3 _)) rfl (RdEnd.isMore HX.out (below4 B4.out (Nat.le_refl _) _ _ _ _))
  | half i =>
    rw [hl] at hn hrd
    simp only [lnV] at hn hrd
    rw [show ((p + 1 : Nat) : Int) = (p : Int) + 1 by omega] at hn
    have HN := Lib.hid hn
    have HX := Lib.hid hrd
    clear hn hl hrd
    rcases hk with ⟨rfl, rfl⟩ | ⟨rfl, rfl⟩
    all_goals
      have A0 := Lib.hid (two_below w)
      have X0 := Lib.hid (two_first w)
      have N0 := Lib.hid (two_next w)
      go_enter Tryd.func37, Tryd.ntmps37
      go_wp2_with fail
      ((with_reducible refine (HN.out _).mono ?_); rintro e w4 ⟨rfl, b4⟩)
      have X4 := Lib.hid (X0.out.later b4)
      have N4 := Lib.hid (N0.out.later b4)
      have B4 := Lib.hid (A0.out.trans (b4.mono A0.out.size))
      obtain ⟨x0, x1, x2, x3⟩ := X4.out.cells
      obtain ⟨n0, n1, n2, n3⟩ := N4.out.cells
      have x4 := fun i => X4.out.free i
      clear b4
      go_wp2
      exact bodyPost_ret (read_end rfl rfl ((((X4.out.set0 _).set1 _).set2 _).set3 _)) rfl (RdEnd.isMore HX.out (below4 B4.out (Nat.le_refl _) _ _ _ _))
  | full i =>
    rw [hl] at hn hrd
    simp only [lnV] at hn hrd
    rw [show ((p + 1 : Nat) : Int) = (p : Int) + 1 by omega] at hn
    have HN := Lib.hid hn
    have HX := Lib.hid hrd
    have HT : Hid (str ((S.data.toList.drop (p + 1)).take i) = S.extract (p + 1) (p + 1 + i)) := (by show _ = _; rw [← sub_take, str_of])
    have hil : p + 1 + i + 2 ≤ S.size := by
      obtain ⟨_, -, -, h⟩ := Pl.lineS_full hl
      rw [List.length_drop] at h
      simp at h
      omega
    clear hn hl hrd
    rcases hk with ⟨rfl, rfl⟩ | ⟨rfl, rfl⟩
    all_goals
      have A0 := Lib.hid (two_below w)
      have X0 := Lib.hid (two_first w)
      have N0 := Lib.hid (two_next w)
      go_enter Tryd.func37, Tryd.ntmps37
      go_wp2_with fail
      ((with_reducible refine (HN.out _).mono ?_); rintro e w4 ⟨rfl, b4⟩)
      have X4 := Lib.hid (X0.out.later b4)
      have N4 := Lib.hid (N0.out.later b4)
      have B4 := Lib.hid (A0.out.trans (b4.mono A0.out.size))
      obtain ⟨x0, x1, x2, x3⟩ := X4.out.cells
      obtain ⟨n0, n1, n2, n3⟩ := N4.out.cells
      have x4 := fun i => X4.out.free i
      clear b4
      go_wp2
      rw [← HT.out]
      exact bodyPost_ret (read_end rfl rfl ((((X4.out.set0 _).set1 _).set2 _).set3 _)) rfl (RdEnd.isOk HX.out (by simp only [Int.natCast_add]; omega) (RRow.nil _ _) (below4 B4.out (Nat.le_refl _) _ _ _ _))
set_option maxRecDepth 100000 in
set_option maxHeartbeats 3200000 in
theorem rread_num (hc : ((S[p]'hp).toNat : Int) = 58) (hrd : Pl.rd d (S.data.toList.drop p) = (match Pl.numS (-9223372036854775808) 9223372036854775807 (S.data.toList.drop (p + 1)) with | .bad => .bad | .more => .more | .ok n k => .ok (.mk 3 [] n []) (k + 1))) :
    Calls Tryd.prog 37 #[.string S, .int .i64 p, .int .i64 d] w (RdEnd w p (Pl.rd d (S.data.toList.drop p))) := by
  cases hl : Pl.numS (-9223372036854775808) 9223372036854775807 (S.data.toList.drop (p + 1)) with
  | bad =>
    have HN := Lib.hid (fun W => refNum_bad (-9223372036854775808) 9223372036854775807 (by omega) (by omega) (by omega) S hS p hp hl W)
    rw [hl] at hrd
    have HX := Lib.hid hrd
    clear hl hrd
    have A0 := Lib.hid (two_below w)
    have X0 := Lib.hid (two_first w)
    have N0 := Lib.hid (two_next w)
    go_enter Tryd.func37, Tryd.ntmps37
    go_wp2_with fail
    ((with_reducible refine (HN.out _).mono ?_); rintro e w4 ⟨rfl, b4⟩)
    have X4 := Lib.hid (X0.out.later b4)
    have N4 := Lib.hid (N0.out.later b4)
    have B4 := Lib.hid (A0.out.trans (b4.mono A0.out.size))
    obtain ⟨x0, x1, x2, x3⟩ := X4.out.cells
    obtain ⟨n0, n1, n2, n3⟩ := N4.out.cells
    have x4 := fun i => X4.out.free i
    clear b4
    go_wp2
    exact bodyPost_ret (read_end rfl rfl ((((X4.out.set0 _).set1 _).set2 _).set3 _)) rfl (RdEnd.isBad HX.out (below4 B4.out (Nat.le_refl _) _ _ _ _))
  | more =>
    have HN := Lib.hid (fun W => refNum_more (-9223372036854775808) 9223372036854775807 (by omega) (by omega) (by omega) S hS p hp hl W)
    rw [hl] at hrd
    have HX := Lib.hid hrd
    clear hl hrd
    have A0 := Lib.hid (two_below w)
    have X0 := Lib.hid (two_first w)
    have N0 := Lib.hid (two_next w)
    go_enter Tryd.func37, Tryd.ntmps37
    go_wp2_with fail
    ((with_reducible refine (HN.out _).mono ?_); rintro e w4 ⟨⟨aa, bb, rfl⟩, b4⟩)
    have X4 := Lib.hid (X0.out.later b4)
    have N4 := Lib.hid (N0.out.later b4)
    have B4 := Lib.hid (A0.out.trans (b4.mono A0.out.size))
    obtain ⟨x0, x1, x2, x3⟩ := X4.out.cells
    obtain ⟨n0, n1, n2, n3⟩ := N4.out.cells
    have x4 := fun i => X4.out.free i
    clear b4
    go_wp2
    exact bodyPost_ret (read_end rfl rfl ((((X4.out.set0 _).set1 _).set2 _).set3 _)) rfl (RdEnd.isMore HX.out (below4 B4.out (Nat.le_refl _) _ _ _ _))
  | ok n k =>
    obtain ⟨_, -, hk2, -, -, -, -, -⟩ := Pl.numS_ok hl
    obtain ⟨i, rfl⟩ : ∃ i, k = i + 2 := ⟨k - 2, by omega⟩
    have HN := Lib.hid (fun W => refNum_ok (-9223372036854775808) 9223372036854775807 (by omega) (by omega) (by omega) S hS p hp hl W)
    rw [hl] at hrd
    simp only at hrd
    have HX := Lib.hid hrd
    have hi : p + 1 + i + 2 ≤ S.size := by
      have := (Pl.numS_ok hl).choose_spec.2.2.2.2.2.2
      rw [List.length_drop] at this
      simp at this
      omega
    clear hl hrd hk2
    have A0 := Lib.hid (two_below w)
    have X0 := Lib.hid (two_first w)
    have N0 := Lib.hid (two_next w)
    go_enter Tryd.func37, Tryd.ntmps37
    go_wp2_with fail
    ((with_reducible refine (HN.out _).mono ?_); rintro e w4 ⟨rfl, b4⟩)
    have X4 := Lib.hid (X0.out.later b4)
    have N4 := Lib.hid (N0.out.later b4)
    have B4 := Lib.hid (A0.out.trans (b4.mono A0.out.size))
    obtain ⟨x0, x1, x2, x3⟩ := X4.out.cells
    obtain ⟨n0, n1, n2, n3⟩ := N4.out.cells
    have x4 := fun i => X4.out.free i
    clear b4
    go_wp2
    exact bodyPost_ret (read_end rfl rfl ((((X4.out.set0 _).set1 _).set2 _).set3 _)) rfl (RdEnd.isOk HX.out (by simp only [Int.natCast_add]; omega) (RRow.nil _ _) (below4 B4.out (Nat.le_refl _) _ _ _ _))
set_option maxRecDepth 100000 in
set_option maxHeartbeats 3200000 in
theorem rread_bulk (hc : ((S[p]'hp).toNat : Int) = 36) (hrd : Pl.rd d (S.data.toList.drop p) = (Pl.rdBulk (S.data.toList.drop (p + 1))).up) :
    Calls Tryd.prog 37 #[.string S, .int .i64 p, .int .i64 d] w (RdEnd w p (Pl.rd d (S.data.toList.drop p))) := by
  have hn := fun W => refBulk_any S hS p (by omega) W
  unfold RdEnd at hn
  cases hl : Pl.rdBulk (S.data.toList.drop (p + 1)) with
  | bad =>
    rw [hl] at hn hrd
    have HN := Lib.hid hn
    have HX := Lib.hid hrd
    clear hn hl hrd
    have A0 := Lib.hid (two_below w)
    have X0 := Lib.hid (two_first w)
    have N0 := Lib.hid (two_next w)
    go_enter Tryd.func37, Tryd.ntmps37
    go_wp2_with fail
    ((with_reducible refine (HN.out _).mono ?_); rintro e w4 ⟨rfl, b4⟩)
    have X4 := Lib.hid (X0.out.later b4)
    have N4 := Lib.hid (N0.out.later b4)
    have B4 := Lib.hid (A0.out.trans (b4.mono A0.out.size))
    obtain ⟨x0, x1, x2, x3⟩ := X4.out.cells
    obtain ⟨n0, n1, n2, n3⟩ := N4.out.cells
    have x4 := fun i => X4.out.free i
    clear b4
    go_wp2
    exact bodyPost_ret (read_end rfl rfl ((((X4.out.set0 _).set1 _).set2 _).set3 _)) rfl (RdEnd.isBad HX.out (below4 B4.out (Nat.le_refl _) _ _ _ _))
  | more =>
    rw [hl] at hn hrd
    have HN := Lib.hid hn
    have HX := Lib.hid hrd
    clear hn hl hrd
    have A0 := Lib.hid (two_below w)
    have X0 := Lib.hid (two_first w)
    have N0 := Lib.hid (two_next w)
    go_enter Tryd.func37, Tryd.ntmps37
    go_wp2_with fail
    ((with_reducible refine (HN.out _).mono ?_); rintro e w4 ⟨rfl, b4⟩)
    have X4 := Lib.hid (X0.out.later b4)
    have N4 := Lib.hid (N0.out.later b4)
    have B4 := Lib.hid (A0.out.trans (b4.mono A0.out.size))
    obtain ⟨x0, x1, x2, x3⟩ := X4.out.cells
    obtain ⟨n0, n1, n2, n3⟩ := N4.out.cells
    have x4 := fun i => X4.out.free i
    clear b4
    go_wp2
    exact bodyPost_ret (read_end rfl rfl ((((X4.out.set0 _).set1 _).set2 _).set3 _)) rfl (RdEnd.isMore HX.out (below4 B4.out (Nat.le_refl _) _ _ _ _))
  | ok r k =>
    rw [hl] at hn hrd
    simp only at hn
    rw [show ((p + 1 : Nat) : Int) = (p : Int) + 1 by omega] at hn
    have HN := Lib.hid hn
    have HX := Lib.hid hrd
    clear hn hl hrd
    have A0 := Lib.hid (two_below w)
    have X0 := Lib.hid (two_first w)
    have N0 := Lib.hid (two_next w)
    go_enter Tryd.func37, Tryd.ntmps37
    go_wp2_with fail
    ((with_reducible refine (HN.out _).mono ?_); rintro e w4 ⟨⟨lv, rfl, hr⟩, b4⟩)
    obtain ⟨al, cl, rfl⟩ := hr.shape
    have HR := Lib.hid (hr.mono (base' := w.heap.size + 1) (by simp))
    clear hr
    have X4 := Lib.hid (X0.out.later b4)
    have N4 := Lib.hid (N0.out.later b4)
    have B4 := Lib.hid (A0.out.trans (b4.mono A0.out.size))
    obtain ⟨x0, x1, x2, x3⟩ := X4.out.cells
    obtain ⟨n0, n1, n2, n3⟩ := N4.out.cells
    have x4 := fun i => X4.out.free i
    clear b4
    go_wp2
    exact bodyPost_ret (read_end rfl rfl ((((X4.out.set0 _).set1 _).set2 _).set3 _)) rfl (RdEnd.isOk (lv := .slice al r.l.length cl) HX.out (by simp only [Int.natCast_add]; omega) ((((HR.out.set ⟨w.heap.size, 0, none⟩ (by simp) _).set ⟨w.heap.size, 1, none⟩ (by simp) _).set ⟨w.heap.size, 2, none⟩ (by simp) _).set ⟨w.heap.size, 3, none⟩ (by simp) _ |>.mono (by omega)) (below4 B4.out (Nat.le_refl _) _ _ _ _))
set_option maxRecDepth 100000 in
set_option maxHeartbeats 3200000 in
theorem rread_no (h1 : ((((S[p]'hp).toNat : Int)) == 43) = false) (h2 : ((((S[p]'hp).toNat : Int)) == 45) = false) (h3 : ((((S[p]'hp).toNat : Int)) == 58) = false) (h4 : ((((S[p]'hp).toNat : Int)) == 36) = false) (h5 : ((((S[p]'hp).toNat : Int)) == 42) = false) (hrd : Pl.rd d (S.data.toList.drop p) = .bad) :
    Calls Tryd.prog 37 #[.string S, .int .i64 p, .int .i64 d] w (RdEnd w p (Pl.rd d (S.data.toList.drop p))) := by
  have B4 := Lib.hid (two_below w)
  have X4 := Lib.hid (two_first w)
  have N4 := Lib.hid (two_next w)
  have HX := Lib.hid hrd
  obtain ⟨n0, n1, n2, n3⟩ := N4.out.cells
  clear hrd
  go_enter Tryd.func37, Tryd.ntmps37
  go_wp2
  first
    | exact bodyPost_ret (read_end rfl rfl X4.out) rfl (RdEnd.isBad HX.out B4.out)
    | exact bodyPost_ret (read_end rfl rfl ((((X4.out.set0 _).set1 _).set2 _).set3 _)) rfl (RdEnd.isBad HX.out (below4 B4.out (Nat.le_refl _) _ _ _ _))
set_option maxRecDepth 100000 in
set_option maxHeartbeats 3200000 in
theorem rread_arr0 (hd0 : d = 0) (hc : ((S[p]'hp).toNat : Int) = 42) (hrd : Pl.rd d (S.data.toList.drop p) = .bad) :
    Calls Tryd.prog 37 #[.string S, .int .i64 p, .int .i64 0] w (RdEnd w p (Pl.rd d (S.data.toList.drop p))) := by
  have B4 := Lib.hid (two_below w)
  have X4 := Lib.hid (two_first w)
  have N4 := Lib.hid (two_next w)
  have HX := Lib.hid hrd
  obtain ⟨n0, n1, n2, n3⟩ := N4.out.cells
  clear hrd
  go_enter Tryd.func37, Tryd.ntmps37
  go_wp2
  first
    | exact bodyPost_ret (read_end rfl rfl X4.out) rfl (RdEnd.isBad HX.out B4.out)
    | exact bodyPost_ret (read_end rfl rfl ((((X4.out.set0 _).set1 _).set2 _).set3 _)) rfl (RdEnd.isBad HX.out (below4 B4.out (Nat.le_refl _) _ _ _ _))
set_option maxRecDepth 100000 in
set_option maxHeartbeats 6400000 in
theorem rread_arr (hd8 : d < 8) (ih : RReadOk S d) (hc : ((S[p]'hp).toNat : Int) = 42) (hrd : Pl.rd (d + 1) (S.data.toList.drop p) = Pl.rdArr (Pl.subR (d + 1)) (S.data.toList.drop (p + 1))) :
    Calls Tryd.prog 37 #[.string S, .int .i64 p, .int .i64 ((d : Int) + 1)] w (RdEnd w p (Pl.rd (d + 1) (S.data.toList.drop p))) := by
  have IH := Lib.hid ih
  have hlen : (S.data.toList.drop (p + 1)).length = S.size - (p + 1) := by rw [List.length_drop]; simp
  have h5 : ((d : Int) + 1 == 0) = false := by rw [beq_eq_false_iff_ne]; omega
  clear ih
  cases hl : Pl.numS (-1) 2147483647 (S.data.toList.drop (p + 1)) with
  | bad =>
    have HN := Lib.hid (fun W => refNum_bad (-1) 2147483647 (by omega) (by omega) (by omega) S hS p hp hl W)
    have HX : Hid (Pl.rd (d + 1) (S.data.toList.drop p) = .bad) := (by show _ = _; rw [hrd]; unfold Pl.rdArr Pl.subR; simp only; rw [hl])
    clear hl hlen hrd
    have A0 := Lib.hid (two_below w)
    have X0 := Lib.hid (two_first w)
    have N0 := Lib.hid (two_next w)
    go_enter Tryd.func37, Tryd.ntmps37
    go_wp2_with fail
    ((with_reducible refine (HN.out _).mono ?_); rintro e w4 ⟨rfl, b4⟩)
    have X4 := Lib.hid (X0.out.later b4)
    have N4 := Lib.hid (N0.out.later b4)
    have B4 := Lib.hid (A0.out.trans (b4.mono A0.out.size))
    obtain ⟨x0, x1, x2, x3⟩ := X4.out.cells
    obtain ⟨n0, n1, n2, n3⟩ := N4.out.cells
    have x4 := fun i => X4.out.free i
    clear b4
    go_wp2
    exact bodyPost_ret (read_end rfl rfl ((((X4.out.set0 _).set1 _).set2 _).set3 _)) rfl (RdEnd.isBad HX.out (below4 B4.out (Nat.le_refl _) _ _ _ _))
  | more =>
    have HN := Lib.hid (fun W => refNum_more (-1) 2147483647 (by omega) (by omega) (by omega) S hS p hp hl W)
    have HX : Hid (Pl.rd (d + 1) (S.data.toList.drop p) = .more) := (by show _ = _; rw [hrd]; unfold Pl.rdArr Pl.subR; simp only; rw [hl])
    clear hl hlen hrd
    have A0 := Lib.hid (two_below w)
    have X0 := Lib.hid (two_first w)
    have N0 := Lib.hid (two_next w)
    go_enter Tryd.func37, Tryd.ntmps37
    go_wp2_with fail
    ((with_reducible refine (HN.out _).mono ?_); rintro e w4 ⟨⟨aa, bb, rfl⟩, b4⟩)
    have X4 := Lib.hid (X0.out.later b4)
    have N4 := Lib.hid (N0.out.later b4)
    have B4 := Lib.hid (A0.out.trans (b4.mono A0.out.size))
    obtain ⟨x0, x1, x2, x3⟩ := X4.out.cells
    obtain ⟨n0, n1, n2, n3⟩ := N4.out.cells
    have x4 := fun i => X4.out.free i
    clear b4
    go_wp2
    exact bodyPost_ret (read_end rfl rfl ((((X4.out.set0 _).set1 _).set2 _).set3 _)) rfl (RdEnd.isMore HX.out (below4 B4.out (Nat.le_refl _) _ _ _ _))
  | ok n k =>
    obtain ⟨_, -, hk2, n1, n2, -, -, hk⟩ := Pl.numS_ok hl
    rw [hlen] at hk
    obtain ⟨i, rfl⟩ : ∃ i, k = i + 2 := ⟨k - 2, by omega⟩
    clear hk2
    have HN := Lib.hid (fun W => refNum_ok (-1) 2147483647 (by omega) (by omega) (by omega) S hS p hp hl W)
    by_cases hneg : n < 0
    · have HX : Hid (Pl.rd (d + 1) (S.data.toList.drop p) = .ok (.mk 7 [] 0 []) (i + 2 + 1)) := (by show _ = _; rw [hrd]; unfold Pl.rdArr Pl.subR; simp only; rw [hl]; simp only; rw [if_pos hneg])
      clear hl hlen hrd
      have A0 := Lib.hid (two_below w)
      have X0 := Lib.hid (two_first w)
      have N0 := Lib.hid (two_next w)
      go_enter Tryd.func37, Tryd.ntmps37
      go_wp2_with fail
      ((with_reducible refine (HN.out _).mono ?_); rintro e w4 ⟨rfl, b4⟩)
      have X4 := Lib.hid (X0.out.later b4)
      have N4 := Lib.hid (N0.out.later b4)
      have B4 := Lib.hid (A0.out.trans (b4.mono A0.out.size))
      obtain ⟨x0, x1, x2, x3⟩ := X4.out.cells
      obtain ⟨n0, n1, n2, n3⟩ := N4.out.cells
      have x4 := fun i => X4.out.free i
      clear b4
      go_wp2
      exact bodyPost_ret (read_end rfl rfl ((((X4.out.set0 _).set1 _).set2 _).set3 _)) rfl (RdEnd.isOk HX.out (by simp only [Int.natCast_add]; omega) (RRow.nil _ _) (below4 B4.out (Nat.le_refl _) _ _ _ _))
    obtain ⟨m, rfl⟩ : ∃ m : Nat, n = m := ⟨n.toNat, by omega⟩
    have HX : Hid (Pl.rd (d + 1) (S.data.toList.drop p) = Pl.rdN (Pl.rd d) m (S.data.toList.drop (p + 1 + i + 2)) [] (i + 2 + 1)) := (by show _ = _; rw [hrd]; unfold Pl.rdArr Pl.subR; simp only; rw [hl]; simp only; rw [if_neg hneg, Int.toNat_natCast, List.drop_drop]; rfl)
    have hm0 : (0 : Int) ≤ (m : Int) := by omega
    clear hl hlen hrd
    have A0 := Lib.hid (two_below w)
    have X0 := Lib.hid (two_first w)
    have N0 := Lib.hid (two_next w)
    go_enter Tryd.func37, Tryd.ntmps37
    go_wp2_with fail
    ((with_reducible refine (HN.out _).mono ?_); rintro e w4 ⟨rfl, b4⟩)
    have X4 := Lib.hid (X0.out.later b4)
    have N4 := Lib.hid (N0.out.later b4)
    have B4 := Lib.hid (A0.out.trans (b4.mono A0.out.size))
    obtain ⟨x0, x1, x2, x3⟩ := X4.out.cells
    obtain ⟨n0, n1, n2, n3⟩ := N4.out.cells
    have x4 := fun i => X4.out.free i
    clear b4
    go_wp2_with fail
    go_loopw [1, 20] (fun o i wr => ∃ (q j : Nat) (v : Value) (acc : List R), o = .int .i64 q ∧ i = .int .i64 j ∧ q ≤ S.size ∧ p + 1 + acc.length ≤ q ∧ j ≤ m ∧ Hid (Pl.rd (d + 1) (S.data.toList.drop p) = Pl.rdN (Pl.rd d) (m - j) (S.data.toList.drop q) acc (q - p)) ∧ Hid (Blk4 wr w.heap.size (.int .i64 0) (.string ⟨#[]⟩) (.int .i64 0) (.slice none 0 0)) ∧ Hid (Blk4 wr (w.heap.size + 1) (.int .i64 0) (.string ⟨#[]⟩) (.int .i64 0) (.slice none 0 0)) ∧ Hid (Blk4 wr w4.heap.size (.int .i64 6) (.string ⟨#[]⟩) (.int .i64 0) v) ∧ Hid (RRow (w4.heap.size + 1) wr v acc) ∧ Hid (Below w4.heap.size w4 wr)) (fun _ i _ => m - (intOf i).toNat)
    case atStart =>
      exact ⟨p + 1 + i + 2, 0, _, [], by go_num, rfl, by omega, by simp; omega, Nat.zero_le _, (by show _ = _; rw [HX.out, Nat.sub_zero, show p + 1 + i + 2 - p = i + 2 + 1 by omega]), X4.out.alloc _, N4.out.alloc _, Blk4.new rfl, RRow.nil _ _, (Below.refl _ _).alloc (Nat.le_refl _) _⟩
    case round =>
      obtain ⟨q, j, v, acc, rfl, rfl, hq, hacc, hj, HXj, XA, XN, XB, hrow, hb⟩ := hrel
      have hd0 := hlen0 S q
      by_cases hlt : j < m
      · have hir := IH.out q hq wr
        have hlt' : (j : Int) < (m : Int) := by omega
        obtain ⟨u, hu⟩ : ∃ u, m - j = u + 1 := ⟨m - j - 1, by omega⟩
        have hXj := HXj.out
        rw [hu, Pl.rdN] at hXj
        have hw4 : w4.heap.size ≤ wr.heap.size := hb.out.size
        cases hx : Pl.rd d (S.data.toList.drop q) with
        | bad =>
          rw [hx] at hir hXj
          have HI : Hid (Calls Tryd.prog 37 #[.string S, .int .i64 q, .int .i64 d] wr fun e w' => e = .returned (.tuple #[zeroR, .int .i64 0, .int .i64 30]) ∧ Below wr.heap.size wr w') := Lib.hid hir
          have HXX := Lib.hid hXj
          clear hir hXj hx hu
          go_wp2_with fail
          ((with_reducible refine HI.out.mono ?_); rintro e w5 ⟨rfl, b5⟩)
          have XA5 := Lib.hid (XA.out.later b5)
          have XN5 := Lib.hid (XN.out.later b5)
          have B5 := Lib.hid (B4.out.trans ((hb.out.trans (b5.mono hw4)).mono B4.out.size))
          clear b5
          obtain ⟨y0, y1, y2, y3⟩ := XA5.out.cells
          have y4 := fun i => XA5.out.free i
          obtain ⟨m0, m1, m2, m3⟩ := XN5.out.cells
          have XA6 := Lib.hid (fun o => XA5.out.alloc o)
          have XN6 := Lib.hid (fun o => XN5.out.alloc o)
          have z4 := fun o => fun i => (XA6.out o).free i
          have z0 := fun o => (XA6.out o).cells
          have z1 := fun o => (XN6.out o).cells
          go_wp2
          exact bodyPost_ret (read_end rfl rfl (((((XA6.out _).set0 _).set1 _).set2 _).set3 _)) rfl (RdEnd.isBad HXX.out (below4 (B5.out.alloc B5.out.size _) (Nat.le_refl _) _ _ _ _))
        | more =>
          rw [hx] at hir hXj
          have HI : Hid (Calls Tryd.prog 37 #[.string S, .int .i64 q, .int .i64 d] wr fun e w' => e = .returned (.tuple #[zeroR, .int .i64 0, .int .i64 31]) ∧ Below wr.heap.size wr w') := Lib.hid hir
          have HXX := Lib.hid hXj
          clear hir hXj hx hu
          go_wp2_with fail
          ((with_reducible refine HI.out.mono ?_); rintro e w5 ⟨rfl, b5⟩)
          have XA5 := Lib.hid (XA.out.later b5)
          have XN5 := Lib.hid (XN.out.later b5)
          have B5 := Lib.hid (B4.out.trans ((hb.out.trans (b5.mono hw4)).mono B4.out.size))
          clear b5
          obtain ⟨y0, y1, y2, y3⟩ := XA5.out.cells
          have y4 := fun i => XA5.out.free i
          obtain ⟨m0, m1, m2, m3⟩ := XN5.out.cells
          have XA6 := Lib.hid (fun o => XA5.out.alloc o)
          have XN6 := Lib.hid (fun o => XN5.out.alloc o)
          have z4 := fun o => fun i => (XA6.out o).free i
          have z0 := fun o => (XA6.out o).cells
          have z1 := fun o => (XN6.out o).cells
          go_wp2
          exact bodyPost_ret (read_end rfl rfl (((((XA6.out _).set0 _).set1 _).set2 _).set3 _)) rfl (RdEnd.isMore HXX.out (below4 (B5.out.alloc B5.out.size _) (Nat.le_refl _) _ _ _ _))
        | ok r kk =>
          rw [hx] at hir hXj
          have HI : Hid (Calls Tryd.prog 37 #[.string S, .int .i64 q, .int .i64 d] wr fun e w' => (∃ lv, e = .returned (.tuple #[rv r lv, .int .i64 ((q : Int) + kk), .int .i64 0]) ∧ RRow wr.heap.size w' lv r.l) ∧ Below wr.heap.size wr w') := Lib.hid hir
          obtain ⟨k1, k2⟩ := ((Pl.rd_ext d).1 _ _ _ hx).1
          rw [hd0] at k2
          obtain ⟨s1, s2, s3, s4⟩ := Pl.rd_small hx
          rw [hd0] at s1 s2
          have hok : OkR r := ⟨s3, s4, by omega, by omega⟩
          have hpq : q - p + kk = q + kk - p := by omega
          have HXX : Hid (Pl.rd (d + 1) (S.data.toList.drop p) = Pl.rdN (Pl.rd d) (m - (j + 1)) (S.data.toList.drop (q + kk)) (acc ++ [r]) (q + kk - p)) := (by show _ = _; rw [hXj]; simp only; rw [List.drop_drop, hpq, show m - (j + 1) = u by omega])
          have hacl : acc.length ≤ 1073741824 := by omega
          have hown := hrow.out.own
          clear hir hXj hx hu s1 s2 s3 s4
          go_wp2_with fail
          ((with_reducible refine HI.out.mono ?_); rintro e w5 ⟨⟨lv, rfl, hrow5⟩, b5⟩)
          have hz5 : wr.heap.size ≤ w5.heap.size := b5.size
          obtain ⟨al, cl, rfl⟩ := hrow5.shape
          have HL5 := Lib.hid hrow5.lis
          have XA5 := Lib.hid (XA.out.later b5)
          have XN5 := Lib.hid (XN.out.later b5)
          have XB5 := Lib.hid (XB.out.later b5)
          have R5 := Lib.hid (hrow.out.later b5)
          have B5 := Lib.hid (hb.out.trans (b5.mono hw4))
          clear b5 hrow5
          have hal : ∀ o, Below w5.heap.size w5 (w5.alloc o) := fun o => (Below.refl _ _).alloc (Nat.le_refl _) _
          have XA6 := Lib.hid (fun o => XA5.out.alloc o)
          have XN6 := Lib.hid (fun o => XN5.out.alloc o)
          have XB6 := Lib.hid (fun o => XB5.out.alloc o)
          have R6 := Lib.hid (fun o => R5.out.later (hal o))
          have L6 := Lib.hid (fun o => HL5.out.later (hal o))
          have B6 := Lib.hid (fun o => B5.out.alloc B5.out.size o)
          have z0 := fun o => (XB6.out o).cells
          have HF := Lib.hid (show ∀ b, wr.heap.size ≤ b → w4.heap.size + 1 ≤ b ∧ v.ownBlock ≠ some b from fun b hb2 => ⟨by have := XB.out.lt; omega, fun e => by have := (hown b e).2; omega⟩)
          have hB4lt := XB.out.lt
          clear hal
          go_wp2_with (at_builtin; refine wpList_append_reply (w5.alloc (.cells #[.int .i64 r.k, .string (str r.t), .int .i64 r.n, .slice al r.l.length cl] 24)) rfl (.tmp 130) (.tmp 132) rfl (w4.heap.size + 1) v acc rfl (R6.out _) r _ _ hok rfl (L6.out _) HF.out (by simp [Act.eval]) hacl (by simp; omega) ?_)
          intro v7 w7 hrow7 hB7 hz7 hk7
          obtain ⟨a7, c7, hv7⟩ := hrow7.shape
          rw [List.length_append] at hv7
          subst hv7
          have hne : ∀ g, g ≤ w4.heap.size → some g ≠ v.ownBlock := fun g hg e => by have := (hown g e.symm).1; omega
          have hB4s := B4.out.size
          have hX4l := X4.out.lt
          have hN4l := N4.out.lt
          have XA7 := Lib.hid ((XA6.out _).kept (hk7 _ (by have := XA5.out.lt; omega) (hne _ (by omega))))
          have XN7 := Lib.hid ((XN6.out _).kept (hk7 _ (by have := XN5.out.lt; omega) (hne _ (by omega))))
          have XB7 := Lib.hid ((XB6.out _).kept (hk7 _ (by have := XB5.out.lt; omega) (hne _ (Nat.le_refl _))))
          have B7 := Lib.hid (hB7 _ _ (B6.out _) (by omega))
          have R7 := Lib.hid hrow7
          obtain ⟨t0, t1, t2, t3⟩ := XB7.out.cells
          have t4 := XB7.out.free 3
          clear hrow7 hB7 hk7 z0 hne
          go_wp2
          go_roundw
          case rel =>
            exact ⟨q + kk, j + 1, _, acc ++ [r], by go_num, by go_num, by omega, by rw [List.length_append]; simp; omega, by omega, HXX, XA7.out.kept (heap_setCell_other _ _ _ _ (by simp; omega)), XN7.out.kept (heap_setCell_other _ _ _ _ (by simp; omega)), XB7.out.set3 _, R7.out.set _ (by simp) _, B7.out.setCell (by simp) _⟩
          case measure => simp [intOf]; omega
      · obtain rfl : j = m := by omega
        have hXj := HXj.out
        rw [Nat.sub_self, Pl.rdN] at hXj
        have HXX := Lib.hid hXj
        obtain ⟨av, cv, hv⟩ := hrow.out.shape
        subst hv
        obtain ⟨y0, y1, y2, y3⟩ := XA.out.cells
        have y4 := fun i => XA.out.free i
        obtain ⟨z0, z1, z2, z3⟩ := XB.out.cells
        have hB4s := B4.out.size
        have hlt4 := XA.out.lt
        have hX4l := X4.out.lt
        clear hXj
        go_wp2
        exact bodyPost_ret (read_end rfl rfl ((((XA.out.set0 _).set1 _).set2 _).set3 _)) rfl (RdEnd.isOk (lv := .slice av acc.length cv) HXX.out (by omega) ((((hrow.out.set ⟨w.heap.size, 0, none⟩ (by simp; omega) _).set ⟨w.heap.size, 1, none⟩ (by simp; omega) _).set ⟨w.heap.size, 2, none⟩ (by simp; omega) _).set ⟨w.heap.size, 3, none⟩ (by simp; omega) _ |>.mono (by omega)) (below4 (B4.out.trans (hb.out.mono B4.out.size)) (Nat.le_refl _) _ _ _ _))
end
set_option maxRecDepth 100000 in
theorem rread_over (S : ByteArray) (hS : S.size ≤ 1073741824) (d : Nat) (hd : d ≤ 8) (w : World) : Calls Tryd.prog 37 #[.string S, .int .i64 S.size, .int .i64 d] w (RdEnd w S.size (Pl.rd d (S.data.toList.drop S.size))) := by
  have B4 := Lib.hid (two_below w)
  have X4 := Lib.hid (two_first w)
  have N4 := Lib.hid (two_next w)
  have HX : Hid (Pl.rd d (S.data.toList.drop S.size) = .more) := (by show _ = _; rw [List.drop_of_length_le (by simp), Pl.rd_nil])
  obtain ⟨n0, n1, n2, n3⟩ := N4.out.cells
  go_enter Tryd.func37, Tryd.ntmps37
  go_wp2
  first
    | exact bodyPost_ret (read_end rfl rfl X4.out) rfl (RdEnd.isMore HX.out B4.out)
    | exact bodyPost_ret (read_end rfl rfl ((((X4.out.set0 _).set1 _).set2 _).set3 _)) rfl (RdEnd.isMore HX.out (below4 B4.out (Nat.le_refl _) _ _ _ _))
theorem rread_of (S : ByteArray) (hS : S.size ≤ 1073741824) (d : Nat) (hd : d ≤ 8) (ih : ∀ e, d = e + 1 → RReadOk S e) : RReadOk S d := by
  intro p hp w
  by_cases hlt : p < S.size
  · obtain ⟨c, hc⟩ : ∃ c, S.data.toList[p]? = some c := ⟨_, List.getElem?_eq_getElem (by simpa using hlt)⟩
    have hdr := drop_at hc
    obtain ⟨hk, hb⟩ := byte_at hc
    have hrd := Pl.rd_cons d c (S.data.toList.drop (p + 1))
    rw [← hdr] at hrd
    by_cases h1 : c = 43
    · subst h1; exact rread_line S hS d hd p hlt w 1 43 (.inl ⟨rfl, rfl⟩) hb (by rw [hrd, if_pos rfl])
    by_cases h2 : c = 45
    · subst h2; exact rread_line S hS d hd p hlt w 2 45 (.inr ⟨rfl, rfl⟩) hb (by rw [hrd, if_neg h1, if_pos rfl])
    by_cases h3 : c = 58
    · subst h3; exact rread_num S hS d hd p hlt w hb (by rw [hrd, if_neg h1, if_neg h2, if_pos rfl]; cases Pl.numS (-9223372036854775808) 9223372036854775807 (S.data.toList.drop (p + 1)) <;> rfl)
    by_cases h4 : c = 36
    · subst h4; exact rread_bulk S hS d hd p hlt w hb (by rw [hrd, if_neg h1, if_neg h2, if_neg h3, if_pos rfl])
    by_cases h5 : c = 42
    · subst h5
      have hr2 : Pl.rd d (S.data.toList.drop p) = Pl.rdArr (Pl.subR d) (S.data.toList.drop (p + 1)) := by rw [hrd, if_neg h1, if_neg h2, if_neg h3, if_neg h4, if_pos rfl]
      cases d with
      | zero => exact rread_arr0 S hS 0 hd p hlt w rfl hb (by rw [hr2]; rfl)
      | succ e =>
        rw [show ((e + 1 : Nat) : Int) = (e : Int) + 1 by omega]
        exact rread_arr S hS e (by omega) p hlt w (by omega) (ih e rfl) hb hr2
    · have hne : ∀ x : UInt8, c ≠ x → ((((S[p]'hlt).toNat : Int)) == (x.toNat : Int)) = false := fun x hx => by
        rw [hb, beq_eq_false_iff_ne]
        intro e
        exact hx (UInt8.toNat_inj.1 (by omega))
      exact rread_no S hS d hd p hlt w (hne 43 h1) (hne 45 h2) (hne 58 h3) (hne 36 h4) (hne 42 h5) (by rw [hrd, if_neg h1, if_neg h2, if_neg h3, if_neg h4, if_neg h5])
  · obtain rfl : p = S.size := by omega
    exact rread_over S hS d hd w
theorem refRead_any (S : ByteArray) (hS : S.size ≤ 1073741824) : ∀ d, d ≤ 8 → RReadOk S d
  | 0, _ => rread_of S hS 0 (by omega) (fun e he => by omega)
  | d + 1, h => rread_of S hS (d + 1) h (fun e he => by
      obtain rfl : d = e := by omega
      exact refRead_any S hS d (by omega))
end Go.Proofs.YtpngmbdchceikaaDoor
