/- The walk of write. -/
import Derived.Test.YtpngmbdchceikaaDoorTwin
import Derived.Test.YtpngmbdchceikaaDoorBuild2
import Derived.Test.YtpngmbdchceikaaDoorNumPrintsW
import Derived.Lib.ItoaLen
namespace Go.Proofs.YtpngmbdchceikaaDoor
open Go.ChangeShapes Go.WideShapes Go.ChangeAt Go.RowKit
open Pl (R)
set_option linter.unusedVariables false
set_option linter.unusedSimpArgs false

theorem enc_1 (d : Nat) (t : List UInt8) (n : Int) (l : List R) : Pl.encL d (.mk 1 t n l) = 43 :: t ++ [13, 10] := by rw [Pl.encL.eq_def]; simp [R.k, R.t, R.n, R.l, Pl.crlf]
theorem enc_2 (d : Nat) (t : List UInt8) (n : Int) (l : List R) : Pl.encL d (.mk 2 t n l) = 45 :: t ++ [13, 10] := by rw [Pl.encL.eq_def]; simp [R.k, R.t, R.n, R.l, Pl.crlf]
theorem enc_3 (d : Nat) (t : List UInt8) (n : Int) (l : List R) : Pl.encL d (.mk 3 t n l) = 58 :: Lib.itoa n ++ [13, 10] := by rw [Pl.encL.eq_def]; simp [R.k, R.t, R.n, R.l, Pl.crlf]
theorem enc_4 (d : Nat) (t : List UInt8) (n : Int) (l : List R) : Pl.encL d (.mk 4 t n l) = 36 :: (Lib.itoa t.length ++ [13, 10] ++ t) ++ [13, 10] := by rw [Pl.encL.eq_def]; simp [R.k, R.t, R.n, R.l, Pl.crlf]
theorem enc_5 (d : Nat) (t : List UInt8) (n : Int) (l : List R) : Pl.encL d (.mk 5 t n l) = [36, 45, 49] ++ [13, 10] := by rw [Pl.encL.eq_def]; simp [R.k, R.t, R.n, R.l, Pl.crlf]
theorem enc_7 (d : Nat) (t : List UInt8) (n : Int) (l : List R) : Pl.encL d (.mk 7 t n l) = [42, 45, 49] ++ [13, 10] := by rw [Pl.encL.eq_def]; simp [R.k, R.t, R.n, R.l, Pl.crlf]
theorem enc_6 (d : Nat) (t : List UInt8) (n : Int) (l : List R) : Pl.encL (d + 1) (.mk 6 t n l) = 42 :: (Lib.itoa l.length ++ [13, 10]) ++ l.flatMap (Pl.encL d) := by rw [Pl.encL.eq_def]; simp [R.k, R.t, R.n, R.l, Pl.crlf]
theorem itoa_short (n : Int) (h1 : -9223372036854775808 ≤ n) (h2 : n ≤ 9223372036854775807) : (Lib.itoa n).length ≤ 21 := Lib.itoa_length_le n h1 h2
theorem cat_data (c : UInt8) (t : List UInt8) : ((⟨#[c]⟩ : ByteArray) ++ str t).data.toList = c :: t := by simp [str]
/-- What write gives. -/
def WriteEnd (B b : Nat) (w0 : World) (bs : List UInt8) (e : Ending) (w' : World) : Prop := e = .returned (.tuple #[]) ∧ Bld B b bs w' ∧ Below B w0 w'
/-- WriteString, behind another world. -/
theorem ws_arm {B b : Nat} {l : List UInt8} {w0 w : World} (s : ByteArray) (m : List UInt8) (hm : s.data.toList = m) (h : Bld B b l w) (hb : Below B w0 w) (hB : B ≤ w0.heap.size) (hlen : (l ++ m).length ≤ 140737488355328) :
    Calls Tryd.prog 42 #[.pointer (some ⟨b, 0, none⟩), .string s] w fun e w' => e = .returned (.tuple #[.int .i64 s.size, .nilIface]) ∧ Bld B b (l ++ m) w' ∧ Below B w0 w' ∧ Spares w w' := by
  subst hm
  refine (writeString_s B b l s w h (by rw [List.length_append] at hlen; simpa using hlen) (Nat.le_trans hB hb.size)).mono ?_
  rintro e w' ⟨h1, h2, h3, h4⟩
  exact ⟨h1, h2, hb.trans h3, h4⟩
set_option maxRecDepth 100000 in
set_option maxHeartbeats 1600000 in
theorem write_1 (d : Nat) (t : List UInt8) (ht : t.length ≤ 1073741824) (n : Int) (hn1 : -9223372036854775808 ≤ n) (hn2 : n ≤ 9223372036854775807) (l : List R) (ao : Option Addr) (cp : Nat) (hl : l.length ≤ 1073741824) (w0 : World) (hp : Pows w0) (b : Nat) (bs : List UInt8) (w : World) (hB : Bld w0.heap.size b bs w) (hb : Below w0.heap.size w0 w) (hlen : bs.length + (Pl.encL d (.mk 1 t n l)).length ≤ 140737488355328) : Calls Tryd.prog 31 #[.pointer (some ⟨b, 0, none⟩), .agg #[.int .i64 1, .string (str t), .int .i64 n, .slice ao l.length cp]] w (WriteEnd w0.heap.size b w0 (bs ++ Pl.encL d (.mk 1 t n l))) := by
  unfold WriteEnd
  rw [enc_1] at hlen ⊢
  have hle : ∀ o, Below w.heap.size w (w.alloc o) := fun o => (Below.refl _ _).alloc (Nat.le_refl _) _
  have HB0 := Lib.hid (hB.later (hle (.cells #[.int .i64 1, .string (str t), .int .i64 n, .slice ao l.length cp] 24)))
  have HW0 := Lib.hid (hb.alloc hb.size (.cells #[.int .i64 1, .string (str t), .int .i64 n, .slice ao l.length cp] 24))
  have HP := Lib.hid hp
  have hts : (str t).size ≤ 1073741824 := by rw [str_size]; exact ht
  have hts2 : (str (Lib.itoa n)).size ≤ 21 := by rw [str_size]; exact itoa_short n hn1 hn2
  have hts3 : (str (Lib.itoa ((str t).size : Int))).size ≤ 21 := by rw [str_size]; exact itoa_short _ (by omega) (by omega)
  have hts4 : (str (Lib.itoa l.length)).size ≤ 21 := by rw [str_size]; exact itoa_short _ (by omega) (by omega)
  have HLEN : Hid ((bs ++ (43 :: t) ++ [13, 10]).length ≤ 140737488355328) := (by show _ ≤ _; simp at hlen ⊢; omega)
  have HLEN0 : Hid ((bs ++ (43 :: t)).length ≤ 140737488355328) := (by show _ ≤ _; simp at hlen ⊢; omega)
  clear hB hb hp hlen hle
  go_enter Tryd.func31, Tryd.ntmps31
  go_wp2_with fail
  ((with_reducible refine (ws_arm (⟨#[43]⟩ ++ str t) ((43 :: t)) (cat_data _ _) HB0.out HW0.out (Nat.le_refl _) HLEN0.out).mono ?_); rintro e w2 ⟨rfl, h2, b2, s2⟩)
  have HB1 := Lib.hid h2
  have HW1 := Lib.hid b2
  clear h2 b2
  go_wp2_with fail
  ((with_reducible refine (ws_arm ⟨#[13, 10]⟩ [13, 10] rfl HB1.out HW1.out (Nat.le_refl _) HLEN.out).mono ?_); rintro e w3 ⟨rfl, h3, b3, s3⟩)
  have HB3 := Lib.hid h3
  have HW3 := Lib.hid b3
  clear h3 b3 s3
  go_wp2
  go_end0
  exact ⟨rfl, by simpa using HB3.out, HW3.out⟩
set_option maxRecDepth 100000 in
set_option maxHeartbeats 1600000 in
theorem write_2 (d : Nat) (t : List UInt8) (ht : t.length ≤ 1073741824) (n : Int) (hn1 : -9223372036854775808 ≤ n) (hn2 : n ≤ 9223372036854775807) (l : List R) (ao : Option Addr) (cp : Nat) (hl : l.length ≤ 1073741824) (w0 : World) (hp : Pows w0) (b : Nat) (bs : List UInt8) (w : World) (hB : Bld w0.heap.size b bs w) (hb : Below w0.heap.size w0 w) (hlen : bs.length + (Pl.encL d (.mk 2 t n l)).length ≤ 140737488355328) : Calls Tryd.prog 31 #[.pointer (some ⟨b, 0, none⟩), .agg #[.int .i64 2, .string (str t), .int .i64 n, .slice ao l.length cp]] w (WriteEnd w0.heap.size b w0 (bs ++ Pl.encL d (.mk 2 t n l))) := by
  unfold WriteEnd
  rw [enc_2] at hlen ⊢
  have hle : ∀ o, Below w.heap.size w (w.alloc o) := fun o => (Below.refl _ _).alloc (Nat.le_refl _) _
  have HB0 := Lib.hid (hB.later (hle (.cells #[.int .i64 2, .string (str t), .int .i64 n, .slice ao l.length cp] 24)))
  have HW0 := Lib.hid (hb.alloc hb.size (.cells #[.int .i64 2, .string (str t), .int .i64 n, .slice ao l.length cp] 24))
  have HP := Lib.hid hp
  have hts : (str t).size ≤ 1073741824 := by rw [str_size]; exact ht
  have hts2 : (str (Lib.itoa n)).size ≤ 21 := by rw [str_size]; exact itoa_short n hn1 hn2
  have hts3 : (str (Lib.itoa ((str t).size : Int))).size ≤ 21 := by rw [str_size]; exact itoa_short _ (by omega) (by omega)
  have hts4 : (str (Lib.itoa l.length)).size ≤ 21 := by rw [str_size]; exact itoa_short _ (by omega) (by omega)
  have HLEN : Hid ((bs ++ (45 :: t) ++ [13, 10]).length ≤ 140737488355328) := (by show _ ≤ _; simp at hlen ⊢; omega)
  have HLEN0 : Hid ((bs ++ (45 :: t)).length ≤ 140737488355328) := (by show _ ≤ _; simp at hlen ⊢; omega)
  clear hB hb hp hlen hle
  go_enter Tryd.func31, Tryd.ntmps31
  go_wp2_with fail
  ((with_reducible refine (ws_arm (⟨#[45]⟩ ++ str t) ((45 :: t)) (cat_data _ _) HB0.out HW0.out (Nat.le_refl _) HLEN0.out).mono ?_); rintro e w2 ⟨rfl, h2, b2, s2⟩)
  have HB1 := Lib.hid h2
  have HW1 := Lib.hid b2
  clear h2 b2
  go_wp2_with fail
  ((with_reducible refine (ws_arm ⟨#[13, 10]⟩ [13, 10] rfl HB1.out HW1.out (Nat.le_refl _) HLEN.out).mono ?_); rintro e w3 ⟨rfl, h3, b3, s3⟩)
  have HB3 := Lib.hid h3
  have HW3 := Lib.hid b3
  clear h3 b3 s3
  go_wp2
  go_end0
  exact ⟨rfl, by simpa using HB3.out, HW3.out⟩
set_option maxRecDepth 100000 in
set_option maxHeartbeats 1600000 in
theorem write_5 (d : Nat) (t : List UInt8) (ht : t.length ≤ 1073741824) (n : Int) (hn1 : -9223372036854775808 ≤ n) (hn2 : n ≤ 9223372036854775807) (l : List R) (ao : Option Addr) (cp : Nat) (hl : l.length ≤ 1073741824) (w0 : World) (hp : Pows w0) (b : Nat) (bs : List UInt8) (w : World) (hB : Bld w0.heap.size b bs w) (hb : Below w0.heap.size w0 w) (hlen : bs.length + (Pl.encL d (.mk 5 t n l)).length ≤ 140737488355328) : Calls Tryd.prog 31 #[.pointer (some ⟨b, 0, none⟩), .agg #[.int .i64 5, .string (str t), .int .i64 n, .slice ao l.length cp]] w (WriteEnd w0.heap.size b w0 (bs ++ Pl.encL d (.mk 5 t n l))) := by
  unfold WriteEnd
  rw [enc_5] at hlen ⊢
  have hle : ∀ o, Below w.heap.size w (w.alloc o) := fun o => (Below.refl _ _).alloc (Nat.le_refl _) _
  have HB0 := Lib.hid (hB.later (hle (.cells #[.int .i64 5, .string (str t), .int .i64 n, .slice ao l.length cp] 24)))
  have HW0 := Lib.hid (hb.alloc hb.size (.cells #[.int .i64 5, .string (str t), .int .i64 n, .slice ao l.length cp] 24))
  have HP := Lib.hid hp
  have hts : (str t).size ≤ 1073741824 := by rw [str_size]; exact ht
  have hts2 : (str (Lib.itoa n)).size ≤ 21 := by rw [str_size]; exact itoa_short n hn1 hn2
  have hts3 : (str (Lib.itoa ((str t).size : Int))).size ≤ 21 := by rw [str_size]; exact itoa_short _ (by omega) (by omega)
  have hts4 : (str (Lib.itoa l.length)).size ≤ 21 := by rw [str_size]; exact itoa_short _ (by omega) (by omega)
  have HLEN : Hid ((bs ++ [36, 45, 49] ++ [13, 10]).length ≤ 140737488355328) := (by show _ ≤ _; simp at hlen ⊢; omega)
  have HLEN0 : Hid ((bs ++ [36, 45, 49]).length ≤ 140737488355328) := (by show _ ≤ _; simp at hlen ⊢; omega)
  clear hB hb hp hlen hle
  go_enter Tryd.func31, Tryd.ntmps31
  go_wp2_with fail
  ((with_reducible refine (ws_arm ⟨#[36, 45, 49]⟩ ([36, 45, 49]) rfl HB0.out HW0.out (Nat.le_refl _) HLEN0.out).mono ?_); rintro e w2 ⟨rfl, h2, b2, s2⟩)
  have HB1 := Lib.hid h2
  have HW1 := Lib.hid b2
  clear h2 b2
  go_wp2_with fail
  ((with_reducible refine (ws_arm ⟨#[13, 10]⟩ [13, 10] rfl HB1.out HW1.out (Nat.le_refl _) HLEN.out).mono ?_); rintro e w3 ⟨rfl, h3, b3, s3⟩)
  have HB3 := Lib.hid h3
  have HW3 := Lib.hid b3
  clear h3 b3 s3
  go_wp2
  go_end0
  exact ⟨rfl, by simpa using HB3.out, HW3.out⟩
set_option maxRecDepth 100000 in
set_option maxHeartbeats 1600000 in
theorem write_7 (d : Nat) (t : List UInt8) (ht : t.length ≤ 1073741824) (n : Int) (hn1 : -9223372036854775808 ≤ n) (hn2 : n ≤ 9223372036854775807) (l : List R) (ao : Option Addr) (cp : Nat) (hl : l.length ≤ 1073741824) (w0 : World) (hp : Pows w0) (b : Nat) (bs : List UInt8) (w : World) (hB : Bld w0.heap.size b bs w) (hb : Below w0.heap.size w0 w) (hlen : bs.length + (Pl.encL d (.mk 7 t n l)).length ≤ 140737488355328) : Calls Tryd.prog 31 #[.pointer (some ⟨b, 0, none⟩), .agg #[.int .i64 7, .string (str t), .int .i64 n, .slice ao l.length cp]] w (WriteEnd w0.heap.size b w0 (bs ++ Pl.encL d (.mk 7 t n l))) := by
  unfold WriteEnd
  rw [enc_7] at hlen ⊢
  have hle : ∀ o, Below w.heap.size w (w.alloc o) := fun o => (Below.refl _ _).alloc (Nat.le_refl _) _
  have HB0 := Lib.hid (hB.later (hle (.cells #[.int .i64 7, .string (str t), .int .i64 n, .slice ao l.length cp] 24)))
  have HW0 := Lib.hid (hb.alloc hb.size (.cells #[.int .i64 7, .string (str t), .int .i64 n, .slice ao l.length cp] 24))
  have HP := Lib.hid hp
  have hts : (str t).size ≤ 1073741824 := by rw [str_size]; exact ht
  have hts2 : (str (Lib.itoa n)).size ≤ 21 := by rw [str_size]; exact itoa_short n hn1 hn2
  have hts3 : (str (Lib.itoa ((str t).size : Int))).size ≤ 21 := by rw [str_size]; exact itoa_short _ (by omega) (by omega)
  have hts4 : (str (Lib.itoa l.length)).size ≤ 21 := by rw [str_size]; exact itoa_short _ (by omega) (by omega)
  have HLEN : Hid ((bs ++ [42, 45, 49] ++ [13, 10]).length ≤ 140737488355328) := (by show _ ≤ _; simp at hlen ⊢; omega)
  have HLEN0 : Hid ((bs ++ [42, 45, 49]).length ≤ 140737488355328) := (by show _ ≤ _; simp at hlen ⊢; omega)
  clear hB hb hp hlen hle
  go_enter Tryd.func31, Tryd.ntmps31
  go_wp2_with fail
  ((with_reducible refine (ws_arm ⟨#[42, 45, 49]⟩ ([42, 45, 49]) rfl HB0.out HW0.out (Nat.le_refl _) HLEN0.out).mono ?_); rintro e w2 ⟨rfl, h2, b2, s2⟩)
  have HB1 := Lib.hid h2
  have HW1 := Lib.hid b2
  clear h2 b2
  go_wp2_with fail
  ((with_reducible refine (ws_arm ⟨#[13, 10]⟩ [13, 10] rfl HB1.out HW1.out (Nat.le_refl _) HLEN.out).mono ?_); rintro e w3 ⟨rfl, h3, b3, s3⟩)
  have HB3 := Lib.hid h3
  have HW3 := Lib.hid b3
  clear h3 b3 s3
  go_wp2
  go_end0
  exact ⟨rfl, by simpa using HB3.out, HW3.out⟩
set_option maxRecDepth 100000 in
set_option maxHeartbeats 1600000 in
theorem write_3 (d : Nat) (t : List UInt8) (ht : t.length ≤ 1073741824) (n : Int) (hn1 : -9223372036854775808 ≤ n) (hn2 : n ≤ 9223372036854775807) (l : List R) (ao : Option Addr) (cp : Nat) (hl : l.length ≤ 1073741824) (w0 : World) (hp : Pows w0) (b : Nat) (bs : List UInt8) (w : World) (hB : Bld w0.heap.size b bs w) (hb : Below w0.heap.size w0 w) (hlen : bs.length + (Pl.encL d (.mk 3 t n l)).length ≤ 140737488355328) : Calls Tryd.prog 31 #[.pointer (some ⟨b, 0, none⟩), .agg #[.int .i64 3, .string (str t), .int .i64 n, .slice ao l.length cp]] w (WriteEnd w0.heap.size b w0 (bs ++ Pl.encL d (.mk 3 t n l))) := by
  unfold WriteEnd
  rw [enc_3] at hlen ⊢
  have hle : ∀ o, Below w.heap.size w (w.alloc o) := fun o => (Below.refl _ _).alloc (Nat.le_refl _) _
  have HB0 := Lib.hid (hB.later (hle (.cells #[.int .i64 3, .string (str t), .int .i64 n, .slice ao l.length cp] 24)))
  have HW0 := Lib.hid (hb.alloc hb.size (.cells #[.int .i64 3, .string (str t), .int .i64 n, .slice ao l.length cp] 24))
  have HP := Lib.hid hp
  have hts : (str t).size ≤ 1073741824 := by rw [str_size]; exact ht
  have hts2 : (str (Lib.itoa n)).size ≤ 21 := by rw [str_size]; exact itoa_short n hn1 hn2
  have hts3 : (str (Lib.itoa ((str t).size : Int))).size ≤ 21 := by rw [str_size]; exact itoa_short _ (by omega) (by omega)
  have hts4 : (str (Lib.itoa l.length)).size ≤ 21 := by rw [str_size]; exact itoa_short _ (by omega) (by omega)
  have HLEN : Hid ((bs ++ (58 :: Lib.itoa n) ++ [13, 10]).length ≤ 140737488355328) := (by show _ ≤ _; simp at hlen ⊢; omega)
  have HLEN0 : Hid ((bs ++ (58 :: Lib.itoa n)).length ≤ 140737488355328) := (by show _ ≤ _; simp at hlen ⊢; omega)
  clear hB hb hp hlen hle
  go_enter Tryd.func31, Tryd.ntmps31
  go_wp2_with fail
  ((with_reducible refine (print_any n hn1 hn2 _ (HP.out.kept (B := 0) HW0.out)).mono ?_); rintro e w1 ⟨rfl, b1⟩)
  have HB1' := Lib.hid (HB0.out.later b1)
  have HW1' := Lib.hid (HW0.out.trans (b1.mono HW0.out.size))
  clear b1
  go_wp2_with fail
  ((with_reducible refine (ws_arm (⟨#[58]⟩ ++ str (Lib.itoa n)) ((58 :: Lib.itoa n)) (cat_data _ _) HB1'.out HW1'.out (Nat.le_refl _) HLEN0.out).mono ?_); rintro e w2 ⟨rfl, h2, b2, s2⟩)
  have HB1 := Lib.hid h2
  have HW1 := Lib.hid b2
  clear h2 b2
  go_wp2_with fail
  ((with_reducible refine (ws_arm ⟨#[13, 10]⟩ [13, 10] rfl HB1.out HW1.out (Nat.le_refl _) HLEN.out).mono ?_); rintro e w3 ⟨rfl, h3, b3, s3⟩)
  have HB3 := Lib.hid h3
  have HW3 := Lib.hid b3
  clear h3 b3 s3
  go_wp2
  go_end0
  exact ⟨rfl, by simpa using HB3.out, HW3.out⟩
set_option maxRecDepth 100000 in
set_option maxHeartbeats 1600000 in
theorem write_4 (d : Nat) (t : List UInt8) (ht : t.length ≤ 1073741824) (n : Int) (hn1 : -9223372036854775808 ≤ n) (hn2 : n ≤ 9223372036854775807) (l : List R) (ao : Option Addr) (cp : Nat) (hl : l.length ≤ 1073741824) (w0 : World) (hp : Pows w0) (b : Nat) (bs : List UInt8) (w : World) (hB : Bld w0.heap.size b bs w) (hb : Below w0.heap.size w0 w) (hlen : bs.length + (Pl.encL d (.mk 4 t n l)).length ≤ 140737488355328) : Calls Tryd.prog 31 #[.pointer (some ⟨b, 0, none⟩), .agg #[.int .i64 4, .string (str t), .int .i64 n, .slice ao l.length cp]] w (WriteEnd w0.heap.size b w0 (bs ++ Pl.encL d (.mk 4 t n l))) := by
  unfold WriteEnd
  rw [enc_4] at hlen ⊢
  have hle : ∀ o, Below w.heap.size w (w.alloc o) := fun o => (Below.refl _ _).alloc (Nat.le_refl _) _
  have HB0 := Lib.hid (hB.later (hle (.cells #[.int .i64 4, .string (str t), .int .i64 n, .slice ao l.length cp] 24)))
  have HW0 := Lib.hid (hb.alloc hb.size (.cells #[.int .i64 4, .string (str t), .int .i64 n, .slice ao l.length cp] 24))
  have HP := Lib.hid hp
  have hts : (str t).size ≤ 1073741824 := by rw [str_size]; exact ht
  have hts2 : (str (Lib.itoa n)).size ≤ 21 := by rw [str_size]; exact itoa_short n hn1 hn2
  have hts3 : (str (Lib.itoa ((str t).size : Int))).size ≤ 21 := by rw [str_size]; exact itoa_short _ (by omega) (by omega)
  have hts4 : (str (Lib.itoa l.length)).size ≤ 21 := by rw [str_size]; exact itoa_short _ (by omega) (by omega)
  have HLEN : Hid ((bs ++ (36 :: (Lib.itoa t.length ++ [13, 10] ++ t)) ++ [13, 10]).length ≤ 140737488355328) := (by show _ ≤ _; simp at hlen ⊢; omega)
  have HLEN0 : Hid ((bs ++ (36 :: (Lib.itoa t.length ++ [13, 10] ++ t))).length ≤ 140737488355328) := (by show _ ≤ _; simp at hlen ⊢; omega)
  clear hB hb hp hlen hle
  have P0 := Lib.hid (Blk4.new (w := w) (a := .int .i64 4) (b := .string (str t)) (c := .int .i64 n) (d := .slice ao l.length cp) rfl)
  have hsum : ((⟨#[36]⟩ ++ str (Lib.itoa ((str t).size : Int))) ++ ⟨#[13, 10]⟩ ++ str t : ByteArray).data.toList = 36 :: (Lib.itoa t.length ++ [13, 10] ++ t) := by rw [str_size]; simp [str]
  have HSUM := Lib.hid hsum
  clear hsum
  have c1 : (9223372036854775807 < 1 + (str (Lib.itoa ((str t).size : Int))).size) = False := by rw [eq_iff_iff, iff_false]; omega
  have c2 : (9223372036854775807 < 1 + (str (Lib.itoa ((str t).size : Int))).size + 2) = False := by rw [eq_iff_iff, iff_false]; omega
  have c3 : (9223372036854775807 < 1 + (str (Lib.itoa ((str t).size : Int))).size + 2 + (str t).size) = False := by rw [eq_iff_iff, iff_false]; omega
  go_enter Tryd.func31, Tryd.ntmps31
  go_wp2_with fail
  refine wp_region_held_drew (S := (fun W => W.cell? ⟨w.heap.size, 1, none⟩ = some (.string (str t)))) (by kernel_rfl) ?_ (fun hHeld => ?_)
  · first | exact PY.out.cells.2.1 | exact PX.out.cells.2.1 | exact P0.out.cells.2.1
  refine wpAnyH_take (i := 0) (oi := (Go.Oper.mk (some 32) (Go.Op.move (Go.Operand.tmp 0)) 60 _ #[] none)) (v := ?_) rfl (by kernel_rfl) (by kernel_rfl) (by kernel_rfl) (fun _ _ _ h => h) (Or.inl ⟨by rfl, ?_⟩) hHeld ?_
  rotate_left
  · intro w hSw; (try dsimp only at hSw); go_simp; (try with_reducible rfl)
  simp only [Act.put, List.setIfInBounds_toArray, List.set_cons_zero, List.set_cons_succ]
  refine wpAnyH_take (i := 1) (oi := (Go.Oper.mk (some 33) (Go.Op.fieldAddr 24 (Go.Operand.tmp 3) 1) 0 _ #[] none)) (v := ?_) rfl (by kernel_rfl) (by kernel_rfl) (by kernel_rfl) (fun _ _ _ h => h) (Or.inl ⟨by rfl, ?_⟩) hHeld ?_
  rotate_left
  · intro w hSw; (try dsimp only at hSw); go_simp; (try with_reducible rfl)
  simp only [Act.put, List.setIfInBounds_toArray, List.set_cons_zero, List.set_cons_succ]
  refine wpAnyH_take (i := 2) (oi := (Go.Oper.mk (some 34) (Go.Op.load 9 (Go.Operand.tmp 33)) 9 _ #[Go.Edge.mk 1 Go.Ground.data] none)) (v := ?_) rfl (by kernel_rfl) (by kernel_rfl) (by kernel_rfl) (fun _ _ _ h => h) (Or.inl ⟨by rfl, ?_⟩) hHeld ?_
  rotate_left
  · intro w hSw; (try dsimp only at hSw); go_simp; (try with_reducible rfl)
  simp only [Act.put, List.setIfInBounds_toArray, List.set_cons_zero, List.set_cons_succ]
  refine wpAnyH_take (i := 3) (oi := (Go.Oper.mk (some 35) (Go.Op.call (Go.Call.mk (Go.Callee.builtin Go.Builtin.len) #[Go.Operand.tmp 34] #[9])) 3 _ #[Go.Edge.mk 2 Go.Ground.data] none)) (v := ?_) rfl (by kernel_rfl) (by kernel_rfl) (by kernel_rfl) (fun _ _ _ h => h) (Or.inl ⟨by rfl, ?_⟩) hHeld ?_
  rotate_left
  · intro w hSw; (try dsimp only at hSw); go_simp; (try with_reducible rfl)
  simp only [Act.put, List.setIfInBounds_toArray, List.set_cons_zero, List.set_cons_succ]
  refine wpAnyH_take (i := 7) (oi := (Go.Oper.mk (some 39) (Go.Op.fieldAddr 24 (Go.Operand.tmp 3) 1) 0 _ #[] none)) (v := ?_) rfl (by kernel_rfl) (by kernel_rfl) (by kernel_rfl) (fun _ _ _ h => h) (Or.inl ⟨by rfl, ?_⟩) hHeld ?_
  rotate_left
  · intro w hSw; (try dsimp only at hSw); go_simp; (try with_reducible rfl)
  simp only [Act.put, List.setIfInBounds_toArray, List.set_cons_zero, List.set_cons_succ]
  refine wpAnyH_take (i := 8) (oi := (Go.Oper.mk (some 40) (Go.Op.load 9 (Go.Operand.tmp 39)) 9 _ #[Go.Edge.mk 7 Go.Ground.data] none)) (v := ?_) rfl (by kernel_rfl) (by kernel_rfl) (by kernel_rfl) (fun _ _ _ h => h) (Or.inl ⟨by rfl, ?_⟩) hHeld ?_
  rotate_left
  · intro w hSw; (try dsimp only at hSw); go_simp; (try with_reducible rfl)
  simp only [Act.put, List.setIfInBounds_toArray, List.set_cons_zero, List.set_cons_succ]
  refine wpAnyH_ready (rs := [4]) (by kernel_rfl) (by simp) ?_
  refine AllReadyH.cons (o := (Go.Oper.mk (some 36) (Go.Op.call (Go.Call.mk (Go.Callee.value (Go.Operand.func 39)) #[Go.Operand.tmp 35] #[3])) 9 _ #[Go.Edge.mk 3 Go.Ground.data] none)) rfl (fun K hK => ?_) AllReadyH.nil
  go_simp
  first | (go_at_call 39; (with_reducible refine (print_any ((str t).size : Int) (by omega) (by omega) _ (HP.out.kept (B := 0) HW0.out.drew)).mono ?_); rintro e wx ⟨rfl, bx⟩; have PX := Lib.hid ((P0.out.later (Below.refl _ _).drew).later bx); have HB1' := Lib.hid ((HB0.out.later (Below.refl _ _).drew).later bx); have HW1' := Lib.hid (HW0.out.drew.trans (bx.mono HW0.out.size)); clear bx) | (go_at_call 42; (with_reducible refine (ws_arm _ _ HSUM.out HB1'.out HW1'.out (Nat.le_refl _) HLEN0.out).mono ?_); rintro e wy ⟨rfl, h2, b2, s2⟩; have PY := Lib.hid (PX.out.kept (s2 _ _ _ _ PX.out (by decide) (by decide))); have HB1 := Lib.hid h2; have HW1 := Lib.hid b2; clear h2 b2 s2)
  go_wp2_with fail
  refine hK.out _ _ ?_ (fun hHeld => ?_)
  · first | exact PY.out.cells.2.1 | exact PX.out.cells.2.1 | exact P0.out.cells.2.1
  clear hK K
  (try simp only [Act.put, List.setIfInBounds_toArray, List.set_cons_zero, List.set_cons_succ])
  refine wpAnyH_take (i := 5) (oi := (Go.Oper.mk (some 37) (Go.Op.binOp Go.BinOp.add 9 (Go.Operand.const (Go.Value.string (ByteArray.mk #[36]))) (Go.Operand.tmp 36) 9) 9 _ #[Go.Edge.mk 4 Go.Ground.data] none)) (v := ?_) rfl (by kernel_rfl) (by kernel_rfl) (by kernel_rfl) (fun _ _ _ h => h) (Or.inl ⟨by rfl, ?_⟩) hHeld ?_
  rotate_left
  · intro w hSw; (try dsimp only at hSw); go_simp; (try with_reducible rfl)
  simp only [Act.put, List.setIfInBounds_toArray, List.set_cons_zero, List.set_cons_succ]
  refine wpAnyH_take (i := 6) (oi := (Go.Oper.mk (some 38) (Go.Op.binOp Go.BinOp.add 9 (Go.Operand.tmp 37) (Go.Operand.const (Go.Value.string (ByteArray.mk #[13, 10]))) 9) 9 _ #[Go.Edge.mk 5 Go.Ground.data] none)) (v := ?_) rfl (by kernel_rfl) (by kernel_rfl) (by kernel_rfl) (fun _ _ _ h => h) (Or.inl ⟨by rfl, ?_⟩) hHeld ?_
  rotate_left
  · intro w hSw; (try dsimp only at hSw); go_simp; (try with_reducible rfl)
  simp only [Act.put, List.setIfInBounds_toArray, List.set_cons_zero, List.set_cons_succ]
  refine wpAnyH_take (i := 9) (oi := (Go.Oper.mk (some 41) (Go.Op.binOp Go.BinOp.add 9 (Go.Operand.tmp 38) (Go.Operand.tmp 40) 9) 9 _ #[Go.Edge.mk 6 Go.Ground.data, Go.Edge.mk 8 Go.Ground.data] none)) (v := ?_) rfl (by kernel_rfl) (by kernel_rfl) (by kernel_rfl) (fun _ _ _ h => h) (Or.inl ⟨by rfl, ?_⟩) hHeld ?_
  rotate_left
  · intro w hSw; (try dsimp only at hSw); go_simp; (try with_reducible rfl)
  simp only [Act.put, List.setIfInBounds_toArray, List.set_cons_zero, List.set_cons_succ]
  refine wpAnyH_ready (rs := [10]) (by kernel_rfl) (by simp) ?_
  refine AllReadyH.cons (o := (Go.Oper.mk (some 42) (Go.Op.call (Go.Call.mk (Go.Callee.value (Go.Operand.func 42)) #[Go.Operand.tmp 32, Go.Operand.tmp 41] #[60, 9])) 77 _ #[Go.Edge.mk 0 Go.Ground.data, Go.Edge.mk 9 Go.Ground.data, Go.Edge.mk 4 Go.Ground.chain] none)) rfl (fun K hK => ?_) AllReadyH.nil
  go_simp
  first | (go_at_call 39; (with_reducible refine (print_any ((str t).size : Int) (by omega) (by omega) _ (HP.out.kept (B := 0) HW0.out.drew)).mono ?_); rintro e wx ⟨rfl, bx⟩; have PX := Lib.hid ((P0.out.later (Below.refl _ _).drew).later bx); have HB1' := Lib.hid ((HB0.out.later (Below.refl _ _).drew).later bx); have HW1' := Lib.hid (HW0.out.drew.trans (bx.mono HW0.out.size)); clear bx) | (go_at_call 42; (with_reducible refine (ws_arm _ _ HSUM.out HB1'.out HW1'.out (Nat.le_refl _) HLEN0.out).mono ?_); rintro e wy ⟨rfl, h2, b2, s2⟩; have PY := Lib.hid (PX.out.kept (s2 _ _ _ _ PX.out (by decide) (by decide))); have HB1 := Lib.hid h2; have HW1 := Lib.hid b2; clear h2 b2 s2)
  go_wp2_with fail
  refine hK.out _ _ ?_ (fun hHeld => ?_)
  · first | exact PY.out.cells.2.1 | exact PX.out.cells.2.1 | exact P0.out.cells.2.1
  clear hK K
  (try simp only [Act.put, List.setIfInBounds_toArray, List.set_cons_zero, List.set_cons_succ])
  refine wpAnyH_done (by kernel_rfl) ?_ _
  go_wp2_with fail
  ((with_reducible refine (ws_arm ⟨#[13, 10]⟩ [13, 10] rfl HB1.out HW1.out (Nat.le_refl _) HLEN.out).mono ?_); rintro e w3 ⟨rfl, h3, b3, s3⟩)
  have HB3 := Lib.hid h3
  have HW3 := Lib.hid b3
  clear h3 b3 s3
  go_wp2
  go_end0
  exact ⟨rfl, by simpa using HB3.out, HW3.out⟩
/-- Write, of a reply that may be with so many arrays left. -/
def WriteOk (d : Nat) : Prop := ∀ (r : R) (lv : Value) (G : Nat → Prop) (w0 : World), OkR r → LIs G w0 lv r.l → Pows w0 → Pl.mayL d r = true → ∀ (b : Nat) (bs : List UInt8) (w : World), Bld w0.heap.size b bs w → Below w0.heap.size w0 w → bs.length + (Pl.encL d r).length ≤ 140737488355328 → Calls Tryd.prog 31 #[.pointer (some ⟨b, 0, none⟩), rv r lv] w (WriteEnd w0.heap.size b w0 (bs ++ Pl.encL d r))
theorem flat_part {l : List R} {j : Nat} {r : R} (f : R → List UInt8) (h : l[j]? = some r) : ((l.take j).flatMap f).length + (f r).length ≤ (l.flatMap f).length := by
  obtain ⟨h1, h2⟩ := List.getElem?_eq_some_iff.1 h
  have e : l = l.take j ++ r :: l.drop (j + 1) := by rw [← h2]; simp
  conv => rhs; rw [e]
  rw [List.flatMap_append, List.flatMap_cons]
  simp
set_option maxRecDepth 100000 in
set_option maxHeartbeats 1600000 in
theorem write_6 (d : Nat) (ih : WriteOk d) (t : List UInt8) (ht : t.length ≤ 1073741824) (n : Int) (l : List R) (lv : Value) (G : Nat → Prop) (hl : l.length ≤ 1073741824) (w0 : World) (hp : Pows w0) (hL : LIs G w0 lv l) (hm : l.all (Pl.mayL d) = true) (b : Nat) (bs : List UInt8) (w : World) (hB : Bld w0.heap.size b bs w) (hb : Below w0.heap.size w0 w)
    (hlen : bs.length + (Pl.encL (d + 1) (.mk 6 t n l)).length ≤ 140737488355328) : Calls Tryd.prog 31 #[.pointer (some ⟨b, 0, none⟩), .agg #[.int .i64 6, .string (str t), .int .i64 n, lv]] w (WriteEnd w0.heap.size b w0 (bs ++ Pl.encL (d + 1) (.mk 6 t n l))) := by
  unfold WriteEnd
  rw [enc_6] at hlen ⊢
  obtain ⟨ao, cp, rfl⟩ := hL.shape
  have hle : ∀ o, Below w.heap.size w (w.alloc o) := fun o => (Below.refl _ _).alloc (Nat.le_refl _) _
  have HB0 := Lib.hid (hB.later (hle (.cells #[.int .i64 6, .string (str t), .int .i64 n, .slice ao l.length cp] 24)))
  have HW0 := Lib.hid (hb.alloc hb.size (.cells #[.int .i64 6, .string (str t), .int .i64 n, .slice ao l.length cp] 24))
  have HP := Lib.hid hp
  have HL := Lib.hid hL
  have HM := Lib.hid hm
  have IH := Lib.hid ih
  have hts4 : (str (Lib.itoa l.length)).size ≤ 21 := by rw [str_size]; exact itoa_short _ (by omega) (by omega)
  have HLEN0 : Hid ((bs ++ (42 :: (Lib.itoa l.length ++ [13, 10]))).length ≤ 140737488355328) := (by show _ ≤ _; simp at hlen ⊢; omega)
  have HT := Lib.hid (show ∀ j r, l[j]? = some r → (bs ++ (42 :: (Lib.itoa l.length ++ [13, 10])) ++ (l.take j).flatMap (Pl.encL d)).length + (Pl.encL d r).length ≤ 140737488355328 from fun j r hj => by
    have := flat_part (Pl.encL d) hj
    simp only [List.length_append, List.length_cons, List.length_nil] at hlen ⊢
    omega)
  have P0 := Lib.hid (Blk4.new (w := w) (a := .int .i64 6) (b := .string (str t)) (c := .int .i64 n) (d := .slice ao l.length cp) rfl)
  have hsum : ((⟨#[42]⟩ ++ str (Lib.itoa l.length)) ++ ⟨#[13, 10]⟩ : ByteArray).data.toList = 42 :: (Lib.itoa l.length ++ [13, 10]) := by simp [str]
  have HSUM := Lib.hid hsum
  clear hB hb hp hlen hle hL hm ih hsum
  go_enter Tryd.func31, Tryd.ntmps31
  go_wp2_with fail
  ((with_reducible refine (print_any l.length (by omega) (by omega) _ (HP.out.kept (B := 0) HW0.out)).mono ?_); rintro e w1 ⟨rfl, b1⟩)
  have HB1' := Lib.hid (HB0.out.later b1)
  have HW1' := Lib.hid (HW0.out.trans (b1.mono HW0.out.size))
  have P1 := Lib.hid (P0.out.later b1)
  clear b1
  go_wp2_with fail
  ((with_reducible refine (ws_arm _ _ HSUM.out HB1'.out HW1'.out (Nat.le_refl _) HLEN0.out).mono ?_); rintro e w2 ⟨rfl, h2, b2, s2⟩)
  have HB1 := Lib.hid h2
  have HW1 := Lib.hid b2
  have P2 := Lib.hid (P1.out.kept (s2 _ _ _ _ P1.out (by decide) (by decide)))
  clear h2 b2 s2
  obtain ⟨p0, p1, p2, p3⟩ := P2.out.cells
  go_wp2_with fail
  clear p0 p1 p2 p3
  go_loopw [64] (fun i wr => ∃ j : Nat, j ≤ l.length ∧ i = .int .i64 j ∧ Hid (Bld w0.heap.size b (bs ++ (42 :: (Lib.itoa l.length ++ [13, 10])) ++ (l.take j).flatMap (Pl.encL d)) wr) ∧ Hid (Below w0.heap.size w0 wr)) (fun i _ => l.length - (intOf i).toNat)
  case atStart => exact ⟨0, Nat.zero_le _, rfl, (by show Bld _ _ _ _; simpa using HB1.out), HW1.out⟩
  case round =>
    obtain ⟨j, hj, rfl, HBj, HWj⟩ := hrel
    by_cases hlt : j < l.length
    · obtain ⟨g, off, r, lv, rfl, hg, hr, hok, k0, k1, k2, k3, hLe⟩ := HL.out.at hlt
      have HR := Lib.hid hr
      have HTj := Lib.hid (HT.out j r hr)
      clear hr
      obtain ⟨aj, cj, rfl⟩ := hLe.shape
      have HI := Lib.hid (IH.out r (.slice aj r.l.length cj) G w0 hok hLe HP.out (List.all_eq_true.1 HM.out r (List.mem_of_getElem? HR.out)) b)
      have q0 := (HWj.out.cell hg).trans k0
      have q1 := (HWj.out.cell hg).trans k1
      have q2 := (HWj.out.cell hg).trans k2
      have q3 := (HWj.out.cell hg).trans k3
      have hle : ∀ o, Below wr.heap.size wr (wr.alloc o) := fun o => (Below.refl _ _).alloc (Nat.le_refl _) _
      have HBa := Lib.hid (HBj.out.later (hle (.cells #[.int .i64 r.k, .string (str r.t), .int .i64 r.n, .slice aj r.l.length cj] 24)))
      have HWa := Lib.hid (HWj.out.alloc HWj.out.size (.cells #[.int .i64 r.k, .string (str r.t), .int .i64 r.n, .slice aj r.l.length cj] 24))
      clear k0 k1 k2 k3 hLe hle
      go_wp2_with fail
      ((with_reducible refine (HI.out _ _ HBa.out HWa.out HTj.out).mono ?_); rintro e w5 ⟨rfl, h5, b5⟩)
      have HB5 : Hid (Bld w0.heap.size b (bs ++ (42 :: (Lib.itoa l.length ++ [13, 10])) ++ (l.take (j + 1)).flatMap (Pl.encL d)) w5) := (by
        show Bld _ _ _ _
        rw [← take_more HR.out, List.flatMap_append, List.flatMap_singleton, ← List.append_assoc]
        exact h5)
      have HW5 := Lib.hid b5
      clear h5 b5
      go_wp2
      go_roundw
      case rel => exact ⟨j + 1, by omega, by go_num, HB5, HW5⟩
      case measure => simp [intOf]; omega
    · obtain rfl : j = l.length := by omega
      rw [List.take_length] at HBj
      go_wp2
      exact bodyPost_ret (results_none rfl _ _ _) rfl ⟨rfl, by simpa using HBj.out, HWj.out⟩
theorem may_kind {d : Nat} {k : Int} {t : List UInt8} {n : Int} {l : List R} (h : Pl.mayL d (.mk k t n l) = true) : k = 1 ∨ k = 2 ∨ k = 3 ∨ k = 4 ∨ k = 5 ∨ k = 7 ∨ k = 6 := by
  by_cases h1 : k = 1; · exact .inl h1
  by_cases h2 : k = 2; · exact .inr (.inl h2)
  by_cases h3 : k = 3; · exact .inr (.inr (.inl h3))
  by_cases h4 : k = 4; · exact .inr (.inr (.inr (.inl h4)))
  by_cases h5 : k = 5; · exact .inr (.inr (.inr (.inr (.inl h5))))
  by_cases h7 : k = 7; · exact .inr (.inr (.inr (.inr (.inr (.inl h7)))))
  by_cases h6 : k = 6; · exact .inr (.inr (.inr (.inr (.inr (.inr h6)))))
  rw [may_no d t n l (by simpa using h1) (by simpa using h2) (by simpa using h3) (by simpa using h4) (by simpa using h5) (by simpa using h6) (by simpa using h7)] at h
  cases h
theorem write_any : ∀ d, WriteOk d
  | d, .mk k t n l, lv, G, w0, hok, hL, hp, hm, b, bs, w, hB, hb, hlen => by
    obtain ⟨hn1, hn2, ht, hl⟩ := hok
    simp only [R.t, R.l, R.n] at ht hl hn1 hn2
    have hL : LIs G w0 lv l := hL
    obtain ⟨ao, cp, e⟩ := hL.shape
    show Calls Tryd.prog 31 #[.pointer (some ⟨b, 0, none⟩), .agg #[.int .i64 k, .string (str t), .int .i64 n, lv]] w _
    rcases may_kind hm with rfl | rfl | rfl | rfl | rfl | rfl | rfl
    · subst e; exact write_1 d t ht n hn1 hn2 l ao cp hl w0 hp b bs w hB hb hlen
    · subst e; exact write_2 d t ht n hn1 hn2 l ao cp hl w0 hp b bs w hB hb hlen
    · subst e; exact write_3 d t ht n hn1 hn2 l ao cp hl w0 hp b bs w hB hb hlen
    · subst e; exact write_4 d t ht n hn1 hn2 l ao cp hl w0 hp b bs w hB hb hlen
    · subst e; exact write_5 d t ht n hn1 hn2 l ao cp hl w0 hp b bs w hB hb hlen
    · subst e; exact write_7 d t ht n hn1 hn2 l ao cp hl w0 hp b bs w hB hb hlen
    · cases d with
      | zero => rw [may_60] at hm; cases hm
      | succ d =>
        rw [may_6s] at hm
        simp only [Bool.and_eq_true] at hm
        exact write_6 d (write_any d) t ht n l lv G hl w0 hp hL hm.2 b bs w hB hb hlen
end Go.Proofs.YtpngmbdchceikaaDoor
