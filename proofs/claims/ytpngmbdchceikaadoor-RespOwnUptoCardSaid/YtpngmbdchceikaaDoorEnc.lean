/- May and Encode, the program's and the reference's. -/
import Derived.Test.YtpngmbdchceikaaDoorBytes
import Derived.Test.YtpngmbdchceikaaDoorMayR
namespace Go.Proofs.YtpngmbdchceikaaDoor
open Go.ChangeShapes Go.WideShapes Go.ChangeAt Go.RowKit
open Pl (R)
set_option linter.unusedVariables false

section
variable (r : R) (lv : Value) (G : Nat → Prop) (w : World)
set_option maxRecDepth 100000 in
theorem may8_any (hok : OkR r) (hL : LIs G w lv r.l) : Calls Tryd.prog 16 #[rv r lv] w (MayEnd 8 r w) := by
  obtain ⟨k, t, n, l⟩ := r
  replace hL : LIs G w lv l := hL
  obtain ⟨ao, cp, rfl⟩ := hL.shape
  unfold MayEnd
  have hb : Below w.heap.size w (w.alloc (.cells #[.int .i64 k, .string (str t), .int .i64 n, .slice ao l.length cp] 24)) := (Below.refl _ _).alloc (Nat.le_refl _) _
  have HB := Lib.hid hb
  have H := Lib.hid (show Calls Tryd.prog 34 #[.agg #[.int .i64 k, .string (str t), .int .i64 n, .slice ao l.length cp], .int .i64 8] _ (MayEnd 8 (.mk k t n l) _) from mayP_any 8 (Nat.le_refl _) (.mk k t n l) (.slice ao l.length cp) G _ hok (hL.later hb))
  clear hL hok hb
  show Calls Tryd.prog 16 #[.agg #[.int .i64 k, .string (str t), .int .i64 n, .slice ao l.length cp]] w _
  go_enter Tryd.func16, Tryd.ntmps16
  go_wp2_with fail
  ((with_reducible refine H.out.mono ?_); rintro e w5 ⟨rfl, b5⟩)
  go_wp2
  go_ret
  exact ⟨rfl, HB.out.trans (b5.mono HB.out.size)⟩
set_option maxRecDepth 100000 in
theorem refMay8_any (hok : OkR r) (hL : LIs G w lv r.l) : Calls Tryd.prog 17 #[rv r lv] w (MayEnd 8 r w) := by
  obtain ⟨k, t, n, l⟩ := r
  replace hL : LIs G w lv l := hL
  obtain ⟨ao, cp, rfl⟩ := hL.shape
  unfold MayEnd
  have hb : Below w.heap.size w (w.alloc (.cells #[.int .i64 k, .string (str t), .int .i64 n, .slice ao l.length cp] 24)) := (Below.refl _ _).alloc (Nat.le_refl _) _
  have HB := Lib.hid hb
  have H := Lib.hid (show Calls Tryd.prog 35 #[.agg #[.int .i64 k, .string (str t), .int .i64 n, .slice ao l.length cp], .int .i64 8] _ (MayEnd 8 (.mk k t n l) _) from mayR_any 8 (Nat.le_refl _) (.mk k t n l) (.slice ao l.length cp) G _ hok (hL.later hb))
  clear hL hok hb
  show Calls Tryd.prog 17 #[.agg #[.int .i64 k, .string (str t), .int .i64 n, .slice ao l.length cp]] w _
  go_enter Tryd.func17, Tryd.ntmps17
  go_wp2_with fail
  ((with_reducible refine H.out.mono ?_); rintro e w5 ⟨rfl, b5⟩)
  go_wp2
  go_ret
  exact ⟨rfl, HB.out.trans (b5.mono HB.out.size)⟩
end
/-- What Encode gives. -/
def encV (r : R) : Value := if Pl.mayL 8 r = true then .tuple #[.string (str (Pl.encL 8 r)), .int .i64 0] else .tuple #[.string (str []), .int .i64 30]
set_option maxRecDepth 100000 in
set_option maxHeartbeats 1600000 in
theorem encode_any (r : R) (lv : Value) (G : Nat → Prop) (w : World) (hok : OkR r) (hL : LIs G w lv r.l) (hp : Pows w) (hlen : Pl.mayL 8 r = true → (Pl.encL 8 r).length ≤ 140737488355328) :
    Calls Tryd.prog 14 #[rv r lv] w fun e w' => e = .returned (encV r) ∧ Below w.heap.size w w' := by
  have hb0 : ∀ o, Below w.heap.size w (w.alloc o) := fun o => (Below.refl _ _).alloc (Nat.le_refl _) _
  obtain ⟨k, t, n, l⟩ := r
  replace hL : LIs G w lv l := hL
  obtain ⟨ao, cp, rfl⟩ := hL.shape
  have hb := hb0 (.cells #[.int .i64 k, .string (str t), .int .i64 n, .slice ao l.length cp] 24)
  have HB := Lib.hid hb
  have H := Lib.hid (show Calls Tryd.prog 16 #[.agg #[.int .i64 k, .string (str t), .int .i64 n, .slice ao l.length cp]] _ (MayEnd 8 (.mk k t n l) _) from may8_any (.mk k t n l) (.slice ao l.length cp) G _ hok (hL.later hb))
  have P0 := Lib.hid (Blk4.new (w := w) (a := .int .i64 k) (b := .string (str t)) (c := .int .i64 n) (d := .slice ao l.length cp) rfl)
  show Calls Tryd.prog 14 #[.agg #[.int .i64 k, .string (str t), .int .i64 n, .slice ao l.length cp]] w _
  have HL := Lib.hid hL
  have HP := Lib.hid hp
  have HOK := Lib.hid hok
  have HLEN := Lib.hid hlen
  have HE := Lib.hid (rfl : encV (.mk k t n l) = encV (.mk k t n l))
  unfold encV at HE
  rcases hm : Pl.mayL 8 (.mk k t n l) with _ | _
  · have HM := Lib.hid hm
    clear hL hok hb hb0 hp hlen hm
    go_enter Tryd.func14, Tryd.ntmps14
    go_wp2_with fail
    ((with_reducible refine H.out.mono ?_); rintro e w5 ⟨rfl, b5⟩)
    rw [HM.out]
    go_wp2
    go_ret2
    exact ⟨by unfold encV; rw [HM.out]; rfl, HB.out.trans (b5.mono HB.out.size)⟩
  · have HM := Lib.hid hm
    clear hL hok hb hb0 hp hlen hm
    go_enter Tryd.func14, Tryd.ntmps14
    go_wp2_with fail
    ((with_reducible refine H.out.mono ?_); rintro e w5 ⟨rfl, b5⟩)
    rw [HM.out]
    have B5 := Lib.hid (HB.out.trans (b5.mono HB.out.size))
    have P5 := Lib.hid (P0.out.later b5)
    obtain ⟨p0, p1, p2, p3⟩ := P5.out.cells
    clear b5
    have hn : w5.heap.size ≤ w5.heap.size := Nat.le_refl _
    have B6 := Lib.hid (show Below w5.heap.size w5 (w5.alloc (.cells #[.pointer none, .slice none 0 0] 63)) from (Below.refl _ _).alloc (Nat.le_refl _) _)
    have P6 := Lib.hid (P5.out.later B6.out)
    obtain ⟨q0, q1, q2, q3⟩ := P6.out.cells
    have hbld : Bld w5.heap.size w5.heap.size [] (w5.alloc (.cells #[.pointer none, .slice none 0 0] 63)) := .inl ⟨Nat.le_refl _, .slice none 0 0, heap_alloc_new w5 _, World.ownsRow_nil _ _ _ _, by simp [Value.ownBlock]⟩
    have W := Lib.hid (show Calls Tryd.prog 31 #[.pointer (some ⟨w5.heap.size, 0, none⟩), .agg #[.int .i64 k, .string (str t), .int .i64 n, .slice ao l.length cp]] _ (WriteEnd w5.heap.size w5.heap.size w5 ([] ++ Pl.encL 8 (.mk k t n l))) from write_any 8 (.mk k t n l) (.slice ao l.length cp) G w5 HOK.out (HL.out.later B5.out) (HP.out.kept (B := 0) B5.out) HM.out w5.heap.size [] _ hbld B6.out (by simpa using HLEN.out HM.out))
    clear hbld
    go_wp2_with fail
    ((with_reducible refine W.out.mono ?_); rintro e w7 ⟨rfl, h7, b7⟩)
    rw [List.nil_append] at h7
    have H7 := Lib.hid h7
    have B7 := Lib.hid b7
    clear h7 b7
    go_wp2_with fail
    ((with_reducible refine (Tryd.Builder_String_any _ _ _ _ H7.out B7.out.size).mono ?_); rintro e w8 ⟨rfl, b8⟩)
    go_wp2
    go_ret2
    exact ⟨by unfold encV; rw [HM.out]; rfl, B5.out.trans ((B7.out.trans b8).mono B5.out.size)⟩
theorem enc_ne (d : Nat) (r : R) : Pl.encL d r ≠ [] := by
  rw [Pl.encL.eq_def]
  split
  repeat' split
  all_goals simp
theorem conv_own {B : Nat} {W : World} {g cap : Nat} {l : List UInt8} (h : W.ownsRow B 5 1 (.slice (some ⟨g, 0, none⟩) l.length cap) l.length (Lib.byteCells l)) :
    (convert 61 9 (.slice (some ⟨g, 0, none⟩) l.length cap)).run Tryd.prog W = .ok (.string (str l)) W :=
  run_convert_bytes_back (P := Tryd.prog) _ 61 9 5 ⟨g, 0, none⟩ cap l Tryd.underlying61 Tryd.underlying5 Tryd.underlying9 (fun j hj => by
    have := World.ownsRow.cells h (g := g) rfl j (.int .u8 (l[j]).toNat) (by simp [Lib.byteCells, hj])
    exact this)
set_option maxRecDepth 100000 in
set_option maxHeartbeats 1600000 in
theorem refEncode_any (r : R) (lv : Value) (G : Nat → Prop) (w : World) (hok : OkR r) (hL : LIs G w lv r.l) (hlen : Pl.mayL 8 r = true → (Pl.encL 8 r).length ≤ 140737488355328) :
    Calls Tryd.prog 15 #[rv r lv] w fun e w' => e = .returned (encV r) ∧ Below w.heap.size w w' := by
  have hb0 : ∀ o, Below w.heap.size w (w.alloc o) := fun o => (Below.refl _ _).alloc (Nat.le_refl _) _
  obtain ⟨k, t, n, l⟩ := r
  replace hL : LIs G w lv l := hL
  obtain ⟨ao, cp, rfl⟩ := hL.shape
  have hb := hb0 (.cells #[.int .i64 k, .string (str t), .int .i64 n, .slice ao l.length cp] 24)
  have HB := Lib.hid hb
  have H := Lib.hid (show Calls Tryd.prog 17 #[.agg #[.int .i64 k, .string (str t), .int .i64 n, .slice ao l.length cp]] _ (MayEnd 8 (.mk k t n l) _) from refMay8_any (.mk k t n l) (.slice ao l.length cp) G _ hok (hL.later hb))
  have P0 := Lib.hid (Blk4.new (w := w) (a := .int .i64 k) (b := .string (str t)) (c := .int .i64 n) (d := .slice ao l.length cp) rfl)
  show Calls Tryd.prog 15 #[.agg #[.int .i64 k, .string (str t), .int .i64 n, .slice ao l.length cp]] w _
  have HL := Lib.hid hL
  have HOK := Lib.hid hok
  have HLEN := Lib.hid hlen
  rcases hm : Pl.mayL 8 (.mk k t n l) with _ | _
  · have HM := Lib.hid hm
    clear hL hok hb hb0 hlen hm
    go_enter Tryd.func15, Tryd.ntmps15
    go_wp2_with fail
    ((with_reducible refine H.out.mono ?_); rintro e w5 ⟨rfl, b5⟩)
    rw [HM.out]
    go_wp2
    go_ret2
    exact ⟨by unfold encV; rw [HM.out]; rfl, HB.out.trans (b5.mono HB.out.size)⟩
  · have HM := Lib.hid hm
    clear hL hok hb hb0 hlen hm
    go_enter Tryd.func15, Tryd.ntmps15
    go_wp2_with fail
    ((with_reducible refine H.out.mono ?_); rintro e w5 ⟨rfl, b5⟩)
    rw [HM.out]
    have B5 := Lib.hid (HB.out.trans (b5.mono HB.out.size))
    have P5 := Lib.hid (P0.out.later b5)
    obtain ⟨p0, p1, p2, p3⟩ := P5.out.cells
    clear b5
    have hbag : Bag w5.heap.size w5 w5 w5 (.slice none 0 0) [] true [] := ⟨World.ownsRow_nil _ _ _ _, Below.refl _ _, Nat.le_refl _, Spares.refl _, fun _ hm => by cases hm⟩
    have W := Lib.hid (show Calls Tryd.prog 33 #[.slice none 0 0, .agg #[.int .i64 k, .string (str t), .int .i64 n, .slice ao l.length cp]] _ (BytesEnd w5.heap.size w5 w5 ([] ++ Pl.encL 8 (.mk k t n l))) from bytes_any 8 (.mk k t n l) (.slice ao l.length cp) G w5 HOK.out (HL.out.later B5.out) HM.out _ _ _ hbag (by simpa using HLEN.out HM.out))
    clear hbag
    go_wp2_with fail
    ((with_reducible refine W.out.mono ?_); rintro e w7 ⟨v7, rfl, h7⟩)
    rw [List.nil_append] at h7
    obtain ⟨g, cap, rfl⟩ : ∃ g cap, v7 = .slice (some ⟨g, 0, none⟩) (Pl.encL 8 (.mk k t n l)).length cap := by
      rcases h7.own.2 with ⟨_, h0⟩ | ⟨g, cap, _, h1, _⟩
      · exact absurd (List.eq_nil_of_length_eq_zero h0) (enc_ne _ _)
      · exact ⟨g, cap, h1⟩
    have H7 := Lib.hid h7
    clear h7
    go_wp2
    rw [conv_own H7.out.own]
    simp only [Result.andThen]
    rw [Oper.upon_value]
    go_wp2
    go_ret2
    exact ⟨by unfold encV; rw [HM.out]; rfl, B5.out.trans (H7.out.bel.mono B5.out.size)⟩
end Go.Proofs.YtpngmbdchceikaaDoor
