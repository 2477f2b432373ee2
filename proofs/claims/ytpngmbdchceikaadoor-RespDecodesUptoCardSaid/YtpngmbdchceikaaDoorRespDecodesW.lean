/- The walk of RespDecodes. -/
import Derived.Test.YtpngmbdchceikaaDoorRDec
namespace Go.Proofs.YtpngmbdchceikaaDoor
open Go.ChangeShapes Go.WideShapes Go.ChangeAt Go.RowKit
open Pl (R Rd)
set_option linter.unusedVariables false

set_option maxRecDepth 100000 in
set_option maxHeartbeats 3200000 in
theorem respDecodes_walk (S : ByteArray) (hS : S.size ≤ 1073741824) (w : World) (hE : Env w) :
    Calls Tryd.prog 5 #[.string S] w fun e w' => e = .returned (.bool true) ∧ Below w.heap.size w w' := by
  have hok := rdR_ok 8 S.data.toList (by simpa using hS)
  obtain ⟨r, hr⟩ : ∃ r, rdR (Pl.rd 8 S.data.toList) = r := ⟨_, rfl⟩
  obtain ⟨k, hk⟩ : ∃ k, rdK (Pl.rd 8 S.data.toList) = k := ⟨_, rfl⟩
  obtain ⟨c, hc⟩ : ∃ c, rdE (Pl.rd 8 S.data.toList) = c := ⟨_, rfl⟩
  have HD := Lib.hid (fun W h => decode_uni S hS hr hk hc W h)
  have HR := Lib.hid (fun W => refDecode_uni S hS hr hk hc W)
  unfold RdUni at HD HR
  rw [hr] at hok
  have HS := Lib.hid (fun (lv lv' : Value) (F F' : Nat → Prop) (W : World) (h : LIs F W lv r.l) (h' : LIs F' W lv' r.l) => same_any r lv lv' F F' W hok h h')
  have HE := Lib.hid hE
  have HA := Lib.hid (fun W (h : Env W) => awake_any W h)
  clear hE hr hk hc hok
  go_enter Tryd.func5, Tryd.ntmps5
  go_wp2_with fail
  ((with_reducible refine (HD.out _ HE.out).mono ?_); rintro e w1 ⟨⟨lv1, rfl, r1⟩, b1⟩)
  obtain ⟨a1, c1, rfl⟩ := r1.shape
  have B2 := Lib.hid (b1.trans ((Below.refl w1.heap.size w1).alloc (Nat.le_refl _) (.cells #[.int .i64 r.k, .string (str r.t), .int .i64 r.n, .slice a1 r.l.length c1] 24) |>.mono b1.size))
  have L2 := Lib.hid (r1.lis.later ((Below.refl w1.heap.size w1).alloc (Nat.le_refl _) (.cells #[.int .i64 r.k, .string (str r.t), .int .i64 r.n, .slice a1 r.l.length c1] 24)))
  have G2 := Lib.hid (Blk4.new (w := w1) (a := .int .i64 r.k) (b := .string (str r.t)) (c := .int .i64 r.n) (d := .slice a1 r.l.length c1) rfl)
  clear r1 b1
  go_wp2_with fail
  ((with_reducible refine (HR.out _).mono ?_); rintro e w3 ⟨⟨lv3, rfl, r3⟩, b3⟩)
  obtain ⟨a3, c3, rfl⟩ := r3.shape
  have hz := b3.size
  have hb4 : Below w3.heap.size w3 (w3.alloc (.cells #[.int .i64 r.k, .string (str r.t), .int .i64 r.n, .slice a3 r.l.length c3] 24)) := (Below.refl _ _).alloc (Nat.le_refl _) _
  have B3 := Lib.hid (B2.out.trans (b3.mono B2.out.size))
  have B4 := Lib.hid (B3.out.trans (hb4.mono B3.out.size))
  have L4 := Lib.hid ((L2.out.later b3).later hb4)
  have M4 := Lib.hid (r3.lis.later hb4)
  have G4 := Lib.hid ((G2.out.later b3).later hb4)
  have K4 := Lib.hid (Blk4.new (w := w3) (a := .int .i64 r.k) (b := .string (str r.t)) (c := .int .i64 r.n) (d := .slice a3 r.l.length c3) rfl)
  clear r3 b3 hb4
  obtain ⟨w4, hw4⟩ : ∃ w4, w3.alloc (.cells #[.int .i64 r.k, .string (str r.t), .int .i64 r.n, .slice a3 r.l.length c3] 24) = w4 := ⟨_, rfl⟩
  rw [hw4] at B4 L4 M4 G4 K4
  obtain ⟨g0, g1, g2, g3⟩ := G4.out.cells
  obtain ⟨k0, k1, k2, k3⟩ := K4.out.cells
  go_wp2_with fail
  ((with_reducible refine (HS.out _ _ _ _ _ L4.out M4.out).mono ?_); rintro e w5 ⟨rfl, b5⟩)
  have B5 := Lib.hid (B4.out.trans (b5.mono B4.out.size))
  clear b5 g0 g1 g2 g3 k0 k1 k2 k3
  go_wp2_with fail
  ((with_reducible refine (HA.out _ (HE.out.kept B5.out)).mono ?_); rintro e w6 ⟨rfl, b6⟩)
  go_wp2
  go_ret
  exact ⟨rfl, B5.out.trans (b6.mono B5.out.size)⟩
end Go.Proofs.YtpngmbdchceikaaDoor
