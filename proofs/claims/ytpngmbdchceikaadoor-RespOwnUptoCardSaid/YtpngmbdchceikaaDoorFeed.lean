/- The decoder's reading on, and Feed: the program's. -/
import Derived.Test.YtpngmbdchceikaaDoorBut
import Derived.StillTailTactics
namespace Go.Proofs.YtpngmbdchceikaaDoor
open Go.ChangeShapes Go.WideShapes Go.ChangeAt Go.RowKit
open Pl (R Rd)
set_option linter.unusedVariables false

/-- How many bytes what is read of others takes. -/
def rdN' (x : Rd) : Nat := match x with | .ok _ k => k | _ => 0
theorem rdK_nat (x : Rd) : rdK x = (rdN' x : Int) := by cases x <;> rfl
theorem rdN_le (l : List UInt8) : rdN' (Pl.rd 8 l) ≤ l.length := by
  cases h : Pl.rd 8 l with
  | bad => exact Nat.zero_le _
  | more => exact Nat.zero_le _
  | ok r k => exact ((Pl.rd_ext 8).1 _ _ _ h).1.2
theorem str_data (l : List UInt8) : (str l).data.toList = l := by simp [str]
theorem results_cell_tmp' {P : Program} {fn : Func} {p u : Tmp} {ty : TypeId} (h : fn.results = #[.cell p ty, .tmp u]) (tmps : Array Value) (w : World) (g : Nat) (val : Value)
    (hp : tmps.getD p undef = .pointer (some ⟨g, 0, none⟩)) (hl : (loadVar ty ⟨g, 0, none⟩).run P w = .ok val w) :
    (results fn tmps).run P w = .ok (.tuple #[val, tmps.getD u undef]) w := by
  have hp' : tmps[p]?.getD undef = .pointer (some ⟨g, 0, none⟩) := by simpa using hp
  simp [results, h, hp', asAddr, hl]
theorem read2_end {W : World} {a b c d : Value} {tmps : Array Value} {n p u : Nat} {fn : Func} (hr : fn.results = #[.cell p 24, .tmp u]) (hp : tmps.getD p undef = .pointer (some ⟨n, 0, none⟩)) (hg : Blk4 W n a b c d) :
    (results fn tmps).run Tryd.prog W = .ok (.tuple #[.agg #[a, b, c, d], tmps.getD u undef]) W :=
  results_cell_tmp' hr tmps W n _ hp (run_loadVar_row W n _ _ _ _ _ hg Tryd.underlying24 rfl replyInfo)
theorem Blk4.drew {w : World} {g : Nat} {a b c d : Value} (h : Blk4 w g a b c d) : Blk4 w.drew g a b c d := h
theorem Blk3.drew {w : World} {g : Nat} {a b c : Value} (h : Blk3 w g a b c) : Blk3 w.drew g a b c := h
theorem Blk1.drew {w : World} {v g : Nat} (h : Blk1 w v g) : Blk1 w.drew v g := h
theorem RRow.drew {base : Nat} {w : World} {v : Value} {l : List R} (h : RRow base w v l) : RRow base w.drew v l := h.kept (Nat.le_refl _) fun _ _ _ => rfl
theorem But.drew1 {g : Nat} {a w : World} (h : But g a w) : But g a w.drew := ⟨h.os, h.tape, h.output, h.size, h.block⟩
/-- What reading on gives. -/
def NextEnd (w : World) (g v : Nat) (r : R) (c : Int) (rest : List UInt8) (e : Ending) (w' : World) : Prop :=
  ∃ lv, e = .returned (.tuple #[rv r lv, .int .i64 c]) ∧ RRow w.heap.size w' lv r.l ∧ DecIs w' g v (some rest) ∧ But g w w'
set_option maxRecDepth 100000 in
set_option maxHeartbeats 3200000 in
theorem next_any (w0 : World) (hE : Env w0) (g v : Nat) (h : List UInt8) (hl : h.length ≤ 1073741824) (w : World) (hb : Below w0.heap.size w0 w) (hD : DecIs w g v (some h)) :
    Calls Tryd.prog 38 #[.pointer (some ⟨v, 0, none⟩)] w (NextEnd w g v (rdR (Pl.rd 8 h)) (rdE (Pl.rd 8 h)) (h.drop (rdN' (Pl.rd 8 h)))) := by
  have hS := str_size h
  have hdat := str_data h
  have hk := rdN_le h
  have hK := rdK_nat (Pl.rd 8 h)
  obtain ⟨r, hr⟩ : ∃ r, rdR (Pl.rd 8 h) = r := ⟨_, rfl⟩
  obtain ⟨k, hk0⟩ : ∃ k, rdN' (Pl.rd 8 h) = k := ⟨_, rfl⟩
  obtain ⟨c, hc⟩ : ∃ c, rdE (Pl.rd 8 h) = c := ⟨_, rfl⟩
  rw [hk0] at hk hK
  rw [hr, hk0, hc]
  obtain ⟨S, hSS⟩ : ∃ S, str h = S := ⟨_, rfl⟩
  rw [hSS] at hS hdat
  have HD := Lib.hid (fun W (hh : Env W) => decode_uni S (by omega) (show rdR (Pl.rd 8 S.data.toList) = r by rw [hdat]; exact hr) (show rdK (Pl.rd 8 S.data.toList) = (k : Int) by rw [hdat]; exact hK) (show rdE (Pl.rd 8 S.data.toList) = c by rw [hdat]; exact hc) W hh)
  unfold RdUni at HD
  have hrest : S.extract k h.length = str (h.drop k) := by
    rw [← hS, ← str_of (S.extract k S.size), sub_all, hdat]
  have HRest := Lib.hid hrest
  have hDb := hD.box
  simp only [Option.getD, Option.isNone] at hDb
  rw [hSS] at hDb
  have B0 := Lib.hid (show Below w.heap.size w (w.alloc (.cells #[.int .i64 0, .string ⟨#[]⟩, .int .i64 0, .slice none 0 0] 24)) from (Below.refl _ _).alloc (Nat.le_refl _) _)
  have X0 := Lib.hid (Blk4.new (w := w) (a := .int .i64 0) (b := .string ⟨#[]⟩) (c := .int .i64 0) (d := .slice none 0 0) rfl)
  have D0 := Lib.hid (hDb.alloc (.cells #[.int .i64 0, .string ⟨#[]⟩, .int .i64 0, .slice none 0 0] 24))
  have V0 := Lib.hid (hD.var.alloc (.cells #[.int .i64 0, .string ⟨#[]⟩, .int .i64 0, .slice none 0 0] 24))
  have E0 := Lib.hid ((hE.kept hb).kept B0.out)
  have hg := hDb.lt
  have hv := hD.var.lt
  have hvg := hD.ne
  have hkS : (k : Int) ≤ S.size := by omega
  obtain ⟨d0, d1, d2⟩ := D0.out.cells
  have v0 := V0.out.cell
  clear hD hDb hr hk0 hc hSS hrest hE hb hdat hl hK
  go_enter Tryd.func38, Tryd.ntmps38
  go_wp2_with fail
  ((with_reducible refine (HD.out _ E0.out).mono ?_); rintro e w4 ⟨⟨lv, rfl, r4⟩, b4⟩)
  obtain ⟨a4, c4, rfl⟩ := r4.shape
  have hz := b4.size
  have hz1 : w.heap.size < w4.heap.size := by have := X0.out.lt; have := b4.size; omega
  have R5 := Lib.hid ((r4.mono (base' := w.heap.size + 1) (by simp)).later (w' := w4.alloc (.cells #[.int .i64 r.k, .string (str r.t), .int .i64 r.n, .slice a4 r.l.length c4] 24)) ((Below.refl _ _).alloc (Nat.le_refl _) _))
  have X5 := Lib.hid ((X0.out.later b4).alloc (.cells #[.int .i64 r.k, .string (str r.t), .int .i64 r.n, .slice a4 r.l.length c4] 24))
  have D5 := Lib.hid ((D0.out.later b4).alloc (.cells #[.int .i64 r.k, .string (str r.t), .int .i64 r.n, .slice a4 r.l.length c4] 24))
  have V5 := Lib.hid ((V0.out.later b4).alloc (.cells #[.int .i64 r.k, .string (str r.t), .int .i64 r.n, .slice a4 r.l.length c4] 24))
  have N5 := Lib.hid ((But.of_below (g := g) (B0.out.trans (b4.mono B0.out.size))).alloc (.cells #[.int .i64 r.k, .string (str r.t), .int .i64 r.n, .slice a4 r.l.length c4] 24))
  have G5 := Lib.hid (Blk4.new (w := w4) (a := .int .i64 r.k) (b := .string (str r.t)) (c := .int .i64 r.n) (d := .slice a4 r.l.length c4) rfl)
  obtain ⟨w5, hw5⟩ : ∃ w5, w4.alloc (.cells #[.int .i64 r.k, .string (str r.t), .int .i64 r.n, .slice a4 r.l.length c4] 24) = w5 := ⟨_, rfl⟩
  rw [hw5] at R5 X5 D5 V5 N5 G5
  obtain ⟨d5, d6, d7⟩ := D5.out.cells
  have d8 := fun i => D5.out.free i
  have v5 := V5.out.cell
  have G6 := Lib.hid (fun u => G5.out.other (p := ⟨g, 0, none⟩) (by simp; omega) u)
  have g6 := fun u => (G6.out u).cells
  have X6 := Lib.hid (fun u => X5.out.other (p := ⟨g, 0, none⟩) (by simp; omega) u)
  have x6 := fun u => (X6.out u).cells
  have x7 := fun u i => (X6.out u).free i
  clear r4 b4 d0 d1 d2 v0
  go_wp2_with fail
  go_still_tail 9, (by kernel_rfl)
  go_wp2
  rw [HRest.out]
  have hgx : g ≠ w.heap.size := by omega
  have hvx : v ≠ w.heap.size := by omega
  refine bodyPost_ret (read2_end rfl rfl (((((X6.out _).set0 _).set1 _).set2 _).set3 _).drew) rfl ⟨.slice a4 r.l.length c4, rfl, ?_, ⟨?_, ?_⟩, ?_⟩
  · exact ((((((R5.out.set ⟨g, 0, none⟩ (by simp; omega) _).set ⟨w.heap.size, 0, none⟩ (by simp) _).set ⟨w.heap.size, 1, none⟩ (by simp) _).set ⟨w.heap.size, 2, none⟩ (by simp) _).set ⟨w.heap.size, 3, none⟩ (by simp) _).drew).mono (by omega)
  · exact ((((((D5.out.set0 _).other hgx _).other hgx _).other hgx _).other hgx _)).drew
  · exact ((((((V5.out.other hvg _).other hvx _).other hvx _).other hvx _).other hvx _)).drew
  · exact ((((((N5.out.set (.inl rfl) _).set (.inr (Nat.le_refl _)) _).set (.inr (Nat.le_refl _)) _).set (.inr (Nat.le_refl _)) _).set (.inr (Nat.le_refl _)) _)).drew1
end Go.Proofs.YtpngmbdchceikaaDoor
