/- read, Decode: the program's. -/
import Derived.Test.YtpngmbdchceikaaDoorArr
namespace Go.Proofs.YtpngmbdchceikaaDoor
open Go.ChangeShapes Go.WideShapes Go.ChangeAt Go.RowKit
open Pl (R Rd)
set_option linter.unusedVariables false
set_option linter.unusedSectionVars false

section
variable (S : ByteArray) (hS : S.size ≤ 1073741824) (d : Nat) (hd : d ≤ 8) (p : Nat) (hp : p < S.size) (w : World) (hE : Env w)
include hS hd hp hE
set_option maxRecDepth 100000 in
set_option maxHeartbeats 3200000 in
theorem read_line (kk : Int) (cc : Nat) (hk : (kk = 1 ∧ cc = 43) ∨ (kk = 2 ∧ cc = 45)) (hc : ((S[p]'hp).toNat : Int) = cc) (hrd : Pl.rd d (S.data.toList.drop p) = Pl.rdLine kk (S.data.toList.drop (p + 1))) :
    Calls Tryd.prog 36 #[.string S, .int .i64 p, .int .i64 d] w (RdEnd w p (Pl.rd d (S.data.toList.drop p))) := by
  have hn := fun W => line_any S hS (p + 1) (by omega) W
  have ha : Below w.heap.size w (w.alloc (.cells #[.int .i64 0, .string ⟨#[]⟩, .int .i64 0, .slice none 0 0] 24)) := (Below.refl _ _).alloc (Nat.le_refl _) _
  have A0 := Lib.hid ha
  have X0 := Lib.hid (Blk4.new (w := w) (a := .int .i64 0) (b := .string ⟨#[]⟩) (c := .int .i64 0) (d := .slice none 0 0) rfl)
  unfold lineV at hn
  rw [show ((p + 1 : Nat) : Int) = (p : Int) + 1 by omega] at hn
  clear hE ha
  unfold Pl.rdLine at hrd
  cases hl : Pl.lineS (S.data.toList.drop (p + 1)) with
  | bad =>
    rw [hl] at hn hrd
    have HN := Lib.hid hn
    have HX := Lib.hid hrd
    clear hn hl hrd
    rcases hk with ⟨rfl, rfl⟩ | ⟨rfl, rfl⟩
    all_goals
      go_enter Tryd.func36, Tryd.ntmps36
      go_wp2_with fail
      ((with_reducible refine (HN.out _).mono ?_); rintro e w4 ⟨rfl, b4⟩)
      have X4 := Lib.hid (X0.out.later b4)
      have B4 := Lib.hid (A0.out.trans (b4.mono A0.out.size))
      obtain ⟨x0, x1, x2, x3⟩ := X4.out.cells
      have x4 := fun i => X4.out.free i
      clear b4
      go_wp2
      exact bodyPost_ret (read_end rfl rfl ((((X4.out.set0 _).set1 _).set2 _).set3 _)) rfl (RdEnd.isBad HX.out (below4 B4.out (Nat.le_refl _) _ _ _ _))
  | cut =>
    rw [hl] at hn hrd
    simp only at hn hrd
    have HN := Lib.hid hn
    have HX := Lib.hid hrd
    clear hn hl hrd
    rcases hk with ⟨rfl, rfl⟩ | ⟨rfl, rfl⟩
    all_goals
      go_enter Tryd.func36, Tryd.ntmps36
      go_wp2_with fail
      ((with_reducible refine (HN.out _).mono ?_); rintro e w4 ⟨rfl, b4⟩)
      have X4 := Lib.hid (X0.out.later b4)
      have B4 := Lib.hid (A0.out.trans (b4.mono A0.out.size))
      obtain ⟨x0, x1, x2, x3⟩ := X4.out.cells
      have x4 := fun i => X4.out.free i
      clear b4
      go_wp2
      exact bodyPost_ret (read_end rfl rfl ((((X4.out.set0 _).set1 _).set2 _).set3 _)) rfl (RdEnd.isMore HX.out (below4 B4.out (Nat.le_refl _) _ _ _ _))
  | half i =>
    rw [hl] at hn hrd
    simp only at hn hrd
    have HN := Lib.hid hn
    have HX := Lib.hid hrd
    clear hn hl hrd
    rcases hk with ⟨rfl, rfl⟩ | ⟨rfl, rfl⟩
    all_goals
      go_enter Tryd.func36, Tryd.ntmps36
      go_wp2_with fail
      ((with_reducible refine (HN.out _).mono ?_); rintro e w4 ⟨rfl, b4⟩)
      have X4 := Lib.hid (X0.out.later b4)
      have B4 := Lib.hid (A0.out.trans (b4.mono A0.out.size))
      obtain ⟨x0, x1, x2, x3⟩ := X4.out.cells
      have x4 := fun i => X4.out.free i
      clear b4
      go_wp2
      exact bodyPost_ret (read_end rfl rfl ((((X4.out.set0 _).set1 _).set2 _).set3 _)) rfl (RdEnd.isMore HX.out (below4 B4.out (Nat.le_refl _) _ _ _ _))
  | full i =>
    rw [hl] at hn hrd
    simp only at hn hrd
    have HN := Lib.hid hn
    have HX := Lib.hid hrd
    have HT : Hid (str ((S.data.toList.drop (p + 1)).take i) = S.extract (p + 1) (p + 1 + i)) := (by show _ = _; rw [← sub_take, str_of])
    clear hn hl hrd
    rcases hk with ⟨rfl, rfl⟩ | ⟨rfl, rfl⟩
    all_goals
      go_enter Tryd.func36, Tryd.ntmps36
      go_wp2_with fail
      ((with_reducible refine (HN.out _).mono ?_); rintro e w4 ⟨rfl, b4⟩)
      have X4 := Lib.hid (X0.out.later b4)
      have B4 := Lib.hid (A0.out.trans (b4.mono A0.out.size))
      obtain ⟨x0, x1, x2, x3⟩ := X4.out.cells
      have x4 := fun i => X4.out.free i
      clear b4
      go_wp2
      rw [← HT.out]
      exact bodyPost_ret (read_end rfl rfl ((((X4.out.set0 _).set1 _).set2 _).set3 _)) rfl (RdEnd.isOk HX.out (by simp only [Int.natCast_add]; omega) (RRow.nil _ _) (below4 B4.out (Nat.le_refl _) _ _ _ _))
set_option maxRecDepth 100000 in
set_option maxHeartbeats 3200000 in
theorem read_num (hc : ((S[p]'hp).toNat : Int) = 58) (hrd : Pl.rd d (S.data.toList.drop p) = (match Pl.numS (-9223372036854775808) 9223372036854775807 (S.data.toList.drop (p + 1)) with | .bad => .bad | .more => .more | .ok n k => .ok (.mk 3 [] n []) (k + 1))) :
    Calls Tryd.prog 36 #[.string S, .int .i64 p, .int .i64 d] w (RdEnd w p (Pl.rd d (S.data.toList.drop p))) := by
  have hn := fun W h => number_any S hS (p + 1) (by omega) W h
  have ha : Below w.heap.size w (w.alloc (.cells #[.int .i64 0, .string ⟨#[]⟩, .int .i64 0, .slice none 0 0] 24)) := (Below.refl _ _).alloc (Nat.le_refl _) _
  have A0 := Lib.hid ha
  have E0 := Lib.hid (hE.kept ha)
  have X0 := Lib.hid (Blk4.new (w := w) (a := .int .i64 0) (b := .string ⟨#[]⟩) (c := .int .i64 0) (d := .slice none 0 0) rfl)
  unfold numV at hn
  rw [show ((p + 1 : Nat) : Int) = (p : Int) + 1 by omega] at hn
  clear hE ha
  cases hl : Pl.numS (-9223372036854775808) 9223372036854775807 (S.data.toList.drop (p + 1)) with
  | bad =>
    rw [hl] at hn hrd
    have HN := Lib.hid hn
    have HX := Lib.hid hrd
    clear hn hl hrd
    go_enter Tryd.func36, Tryd.ntmps36
    go_wp2_with fail
    ((with_reducible refine (HN.out _ E0.out).mono ?_); rintro e w4 ⟨rfl, b4⟩)
    have X4 := Lib.hid (X0.out.later b4)
    have B4 := Lib.hid (A0.out.trans (b4.mono A0.out.size))
    obtain ⟨x0, x1, x2, x3⟩ := X4.out.cells
    have x4 := fun i => X4.out.free i
    clear b4
    go_wp2
    exact bodyPost_ret (read_end rfl rfl ((((X4.out.set0 _).set1 _).set2 _).set3 _)) rfl (RdEnd.isBad HX.out (below4 B4.out (Nat.le_refl _) _ _ _ _))
  | more =>
    rw [hl] at hn hrd
    have HN := Lib.hid hn
    have HX := Lib.hid hrd
    clear hn hl hrd
    go_enter Tryd.func36, Tryd.ntmps36
    go_wp2_with fail
    ((with_reducible refine (HN.out _ E0.out).mono ?_); rintro e w4 ⟨rfl, b4⟩)
    have X4 := Lib.hid (X0.out.later b4)
    have B4 := Lib.hid (A0.out.trans (b4.mono A0.out.size))
    obtain ⟨x0, x1, x2, x3⟩ := X4.out.cells
    have x4 := fun i => X4.out.free i
    clear b4
    go_wp2
    exact bodyPost_ret (read_end rfl rfl ((((X4.out.set0 _).set1 _).set2 _).set3 _)) rfl (RdEnd.isMore HX.out (below4 B4.out (Nat.le_refl _) _ _ _ _))
  | ok n k =>
    rw [hl] at hn hrd
    simp only at hn hrd
    have HN := Lib.hid hn
    have HX := Lib.hid hrd
    clear hn hl hrd
    go_enter Tryd.func36, Tryd.ntmps36
    go_wp2_with fail
    ((with_reducible refine (HN.out _ E0.out).mono ?_); rintro e w4 ⟨rfl, b4⟩)
    have X4 := Lib.hid (X0.out.later b4)
    have B4 := Lib.hid (A0.out.trans (b4.mono A0.out.size))
    obtain ⟨x0, x1, x2, x3⟩ := X4.out.cells
    have x4 := fun i => X4.out.free i
    clear b4
    go_wp2
    exact bodyPost_ret (read_end rfl rfl ((((X4.out.set0 _).set1 _).set2 _).set3 _)) rfl (RdEnd.isOk HX.out (by simp only [Int.natCast_add]; omega) (RRow.nil _ _) (below4 B4.out (Nat.le_refl _) _ _ _ _))
set_option maxRecDepth 100000 in
set_option maxHeartbeats 3200000 in
theorem read_bulk (hc : ((S[p]'hp).toNat : Int) = 36) (hcr : S.data.toList[p]? ≠ some 13) (hrd : Pl.rd d (S.data.toList.drop p) = (Pl.rdBulk (S.data.toList.drop (p + 1))).up) :
    Calls Tryd.prog 36 #[.string S, .int .i64 p, .int .i64 d] w (RdEnd w p (Pl.rd d (S.data.toList.drop p))) := by
  have ha : Below w.heap.size w (w.alloc (.cells #[.int .i64 0, .string ⟨#[]⟩, .int .i64 0, .slice none 0 0] 24)) := (Below.refl _ _).alloc (Nat.le_refl _) _
  have A0 := Lib.hid ha
  have X0 := Lib.hid (Blk4.new (w := w) (a := .int .i64 0) (b := .string ⟨#[]⟩) (c := .int .i64 0) (d := .slice none 0 0) rfl)
  have hn := bulk_any S hS (p + 1) (by omega) (by omega) (fun c h e => hcr (by subst e; simpa using h)) _ (hE.kept ha)
  unfold RdEnd at hn
  rw [show ((p + 1 : Nat) : Int) = (p : Int) + 1 by omega] at hn
  clear hE ha hcr
  cases hl : Pl.rdBulk (S.data.toList.drop (p + 1)) with
  | bad =>
    rw [hl] at hn hrd
    have HN := Lib.hid hn
    have HX := Lib.hid hrd
    clear hn hl hrd
    go_enter Tryd.func36, Tryd.ntmps36
    go_wp2_with fail
    ((with_reducible refine HN.out.mono ?_); rintro e w4 ⟨rfl, b4⟩)
    have X4 := Lib.hid (X0.out.later b4)
    have B4 := Lib.hid (A0.out.trans (b4.mono A0.out.size))
    obtain ⟨x0, x1, x2, x3⟩ := X4.out.cells
    have x4 := fun i => X4.out.free i
    clear b4
    go_wp2
    exact bodyPost_ret (read_end rfl rfl ((((X4.out.set0 _).set1 _).set2 _).set3 _)) rfl (RdEnd.isBad HX.out (below4 B4.out (Nat.le_refl _) _ _ _ _))
  | more =>
    rw [hl] at hn hrd
    have HN := Lib.hid hn
    have HX := Lib.hid hrd
    clear hn hl hrd
    go_enter Tryd.func36, Tryd.ntmps36
    go_wp2_with fail
    ((with_reducible refine HN.out.mono ?_); rintro e w4 ⟨rfl, b4⟩)
    have X4 := Lib.hid (X0.out.later b4)
    have B4 := Lib.hid (A0.out.trans (b4.mono A0.out.size))
    obtain ⟨x0, x1, x2, x3⟩ := X4.out.cells
    have x4 := fun i => X4.out.free i
    clear b4
    go_wp2
    exact bodyPost_ret (read_end rfl rfl ((((X4.out.set0 _).set1 _).set2 _).set3 _)) rfl (RdEnd.isMore HX.out (below4 B4.out (Nat.le_refl _) _ _ _ _))
  | ok r k =>
    rw [hl] at hn hrd
    simp only at hn
    have HN := Lib.hid hn
    have HX := Lib.hid hrd
    clear hn hl hrd
    go_enter Tryd.func36, Tryd.ntmps36
    go_wp2_with fail
    ((with_reducible refine HN.out.mono ?_); rintro e w4 ⟨⟨lv, rfl, hr⟩, b4⟩)
    obtain ⟨al, cl, rfl⟩ := hr.shape
    have HR := Lib.hid (hr.mono (base' := w.heap.size + 1) (by simp))
    clear hr
    have X4 := Lib.hid (X0.out.later b4)
    have B4 := Lib.hid (A0.out.trans (b4.mono A0.out.size))
    obtain ⟨x0, x1, x2, x3⟩ := X4.out.cells
    have x4 := fun i => X4.out.free i
    clear b4
    go_wp2
    exact bodyPost_ret (read_end rfl rfl ((((X4.out.set0 _).set1 _).set2 _).set3 _)) rfl (RdEnd.isOk (lv := .slice al r.l.length cl) HX.out (by simp only [Int.natCast_add]; omega) ((((HR.out.set ⟨w.heap.size, 0, none⟩ (by simp) _).set ⟨w.heap.size, 1, none⟩ (by simp) _).set ⟨w.heap.size, 2, none⟩ (by simp) _).set ⟨w.heap.size, 3, none⟩ (by simp) _ |>.mono (by omega)) (below4 B4.out (Nat.le_refl _) _ _ _ _))
set_option maxRecDepth 100000 in
set_option maxHeartbeats 3200000 in
theorem read_arr (harr : ArrOk S d) (hc : ((S[p]'hp).toNat : Int) = 42) (hcr : S.data.toList[p]? ≠ some 13) (hrd : Pl.rd d (S.data.toList.drop p) = Pl.rdArr (Pl.subR d) (S.data.toList.drop (p + 1))) :
    Calls Tryd.prog 36 #[.string S, .int .i64 p, .int .i64 d] w (RdEnd w p (Pl.rd d (S.data.toList.drop p))) := by
  have ha : Below w.heap.size w (w.alloc (.cells #[.int .i64 0, .string ⟨#[]⟩, .int .i64 0, .slice none 0 0] 24)) := (Below.refl _ _).alloc (Nat.le_refl _) _
  have A0 := Lib.hid ha
  have X0 := Lib.hid (Blk4.new (w := w) (a := .int .i64 0) (b := .string ⟨#[]⟩) (c := .int .i64 0) (d := .slice none 0 0) rfl)
  have hn := harr p (by omega) (fun c h e => hcr (by subst e; exact h)) _ (hE.kept ha)
  rw [hrd]
  generalize Pl.rdArr (Pl.subR d) (S.data.toList.drop (p + 1)) = X at hn
  unfold RdEnd at hn
  clear hE ha hcr hrd harr
  cases X with
  | bad =>
    have HN := Lib.hid hn
    clear hn
    go_enter Tryd.func36, Tryd.ntmps36
    go_wp2_with fail
    ((with_reducible refine HN.out.mono ?_); rintro e w4 ⟨rfl, b4⟩)
    have X4 := Lib.hid (X0.out.later b4)
    have B4 := Lib.hid (A0.out.trans (b4.mono A0.out.size))
    obtain ⟨x0, x1, x2, x3⟩ := X4.out.cells
    have x4 := fun i => X4.out.free i
    clear b4
    go_wp2
    exact bodyPost_ret (read_end rfl rfl ((((X4.out.set0 _).set1 _).set2 _).set3 _)) rfl (RdEnd.isBad rfl (below4 B4.out (Nat.le_refl _) _ _ _ _))
  | more =>
    have HN := Lib.hid hn
    clear hn
    go_enter Tryd.func36, Tryd.ntmps36
    go_wp2_with fail
    ((with_reducible refine HN.out.mono ?_); rintro e w4 ⟨rfl, b4⟩)
    have X4 := Lib.hid (X0.out.later b4)
    have B4 := Lib.hid (A0.out.trans (b4.mono A0.out.size))
    obtain ⟨x0, x1, x2, x3⟩ := X4.out.cells
    have x4 := fun i => X4.out.free i
    clear b4
    go_wp2
    exact bodyPost_ret (read_end rfl rfl ((((X4.out.set0 _).set1 _).set2 _).set3 _)) rfl (RdEnd.isMore rfl (below4 B4.out (Nat.le_refl _) _ _ _ _))
  | ok r k =>
    simp only at hn
    have HN := Lib.hid hn
    clear hn
    go_enter Tryd.func36, Tryd.ntmps36
    go_wp2_with fail
    ((with_reducible refine HN.out.mono ?_); rintro e w4 ⟨⟨lv, rfl, hr⟩, b4⟩)
    obtain ⟨al, cl, rfl⟩ := hr.shape
    have HR := Lib.hid (hr.mono (base' := w.heap.size + 1) (by simp))
    clear hr
    have X4 := Lib.hid (X0.out.later b4)
    have B4 := Lib.hid (A0.out.trans (b4.mono A0.out.size))
    obtain ⟨x0, x1, x2, x3⟩ := X4.out.cells
    have x4 := fun i => X4.out.free i
    clear b4
    go_wp2
    exact bodyPost_ret (read_end rfl rfl ((((X4.out.set0 _).set1 _).set2 _).set3 _)) rfl (RdEnd.isOk (lv := .slice al r.l.length cl) rfl rfl ((((HR.out.set ⟨w.heap.size, 0, none⟩ (by simp) _).set ⟨w.heap.size, 1, none⟩ (by simp) _).set ⟨w.heap.size, 2, none⟩ (by simp) _).set ⟨w.heap.size, 3, none⟩ (by simp) _ |>.mono (by omega)) (below4 B4.out (Nat.le_refl _) _ _ _ _))
set_option maxRecDepth 100000 in
set_option maxHeartbeats 3200000 in
theorem read_no (h1 : ((((S[p]'hp).toNat : Int)) == 43) = false) (h2 : ((((S[p]'hp).toNat : Int)) == 45) = false) (h3 : ((((S[p]'hp).toNat : Int)) == 58) = false) (h4 : ((((S[p]'hp).toNat : Int)) == 36) = false) (h5 : ((((S[p]'hp).toNat : Int)) == 42) = false) (hrd : Pl.rd d (S.data.toList.drop p) = .bad) :
    Calls Tryd.prog 36 #[.string S, .int .i64 p, .int .i64 d] w (RdEnd w p (Pl.rd d (S.data.toList.drop p))) := by
  have B4 := Lib.hid (show Below w.heap.size w (w.alloc (.cells #[.int .i64 0, .string ⟨#[]⟩, .int .i64 0, .slice none 0 0] 24)) from (Below.refl _ _).alloc (Nat.le_refl _) _)
  have X0 := Lib.hid (Blk4.new (w := w) (a := .int .i64 0) (b := .string ⟨#[]⟩) (c := .int .i64 0) (d := .slice none 0 0) rfl)
  have HX := Lib.hid hrd
  clear hE hrd
  go_enter Tryd.func36, Tryd.ntmps36
  go_wp2
  exact bodyPost_ret (read_end rfl rfl X0.out) rfl (RdEnd.isBad HX.out B4.out)
end
set_option maxRecDepth 100000 in
theorem read_over (S : ByteArray) (hS : S.size ≤ 1073741824) (d : Nat) (hd : d ≤ 8) (w : World) : Calls Tryd.prog 36 #[.string S, .int .i64 S.size, .int .i64 d] w (RdEnd w S.size (Pl.rd d (S.data.toList.drop S.size))) := by
  have B4 := Lib.hid (show Below w.heap.size w (w.alloc (.cells #[.int .i64 0, .string ⟨#[]⟩, .int .i64 0, .slice none 0 0] 24)) from (Below.refl _ _).alloc (Nat.le_refl _) _)
  have X0 := Lib.hid (Blk4.new (w := w) (a := .int .i64 0) (b := .string ⟨#[]⟩) (c := .int .i64 0) (d := .slice none 0 0) rfl)
  have HX : Hid (Pl.rd d (S.data.toList.drop S.size) = .more) := (by show _ = _; rw [List.drop_of_length_le (by simp), Pl.rd_nil])
  go_enter Tryd.func36, Tryd.ntmps36
  go_wp2
  exact bodyPost_ret (read_end rfl rfl X0.out) rfl (RdEnd.isMore HX.out B4.out)
theorem read_of (S : ByteArray) (hS : S.size ≤ 1073741824) (d : Nat) (hd : d ≤ 8) (harr : ArrOk S d) : ReadOk S d := by
  intro p hp w hE
  by_cases hlt : p < S.size
  · obtain ⟨c, hc⟩ : ∃ c, S.data.toList[p]? = some c := ⟨_, List.getElem?_eq_getElem (by simpa using hlt)⟩
    have hdr := drop_at hc
    obtain ⟨hk, hb⟩ := byte_at hc
    have hrd := Pl.rd_cons d c (S.data.toList.drop (p + 1))
    rw [← hdr] at hrd
    by_cases h1 : c = 43
    · subst h1; exact read_line S hS d hd p hlt w hE 1 43 (.inl ⟨rfl, rfl⟩) hb (by rw [hrd, if_pos rfl])
    by_cases h2 : c = 45
    · subst h2; exact read_line S hS d hd p hlt w hE 2 45 (.inr ⟨rfl, rfl⟩) hb (by rw [hrd, if_neg h1, if_pos rfl])
    by_cases h3 : c = 58
    · subst h3; exact read_num S hS d hd p hlt w hE hb (by rw [hrd, if_neg h1, if_neg h2, if_pos rfl]; cases Pl.numS (-9223372036854775808) 9223372036854775807 (S.data.toList.drop (p + 1)) <;> rfl)
    by_cases h4 : c = 36
    · subst h4; exact read_bulk S hS d hd p hlt w hE hb (by rw [hc]; decide) (by rw [hrd, if_neg h1, if_neg h2, if_neg h3, if_pos rfl])
    by_cases h5 : c = 42
    · subst h5; exact read_arr S hS d hd p hlt w hE harr hb (by rw [hc]; decide) (by rw [hrd, if_neg h1, if_neg h2, if_neg h3, if_neg h4, if_pos rfl])
    · have hne : ∀ x : UInt8, c ≠ x → ((((S[p]'hlt).toNat : Int)) == (x.toNat : Int)) = false := fun x hx => by
        rw [hb, beq_eq_false_iff_ne]
        intro e
        exact hx (UInt8.toNat_inj.1 (by omega))
      exact read_no S hS d hd p hlt w hE (hne 43 h1) (hne 45 h2) (hne 58 h3) (hne 36 h4) (hne 42 h5) (by rw [hrd, if_neg h1, if_neg h2, if_neg h3, if_neg h4, if_neg h5])
  · obtain rfl : p = S.size := by omega
    exact read_over S hS d hd w
theorem read_any (S : ByteArray) (hS : S.size ≤ 1073741824) : ∀ d, d ≤ 8 → ReadOk S d
  | 0, _ => read_of S hS 0 (by omega) (arr_0 S)
  | d + 1, h => read_of S hS (d + 1) h (arr_s S hS d (by omega) (read_any S hS d (by omega)))
end Go.Proofs.YtpngmbdchceikaaDoor
