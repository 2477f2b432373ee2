/- Decode: the reference's; what both give, in one form. -/
import Derived.Test.YtpngmbdchceikaaDoorRRead
import Derived.Test.YtpngmbdchceikaaDoorDec
namespace Go.Proofs.YtpngmbdchceikaaDoor
open Go.ChangeShapes Go.WideShapes Go.ChangeAt Go.RowKit
open Pl (R Rd)
set_option linter.unusedVariables false

set_option maxRecDepth 100000 in
set_option maxHeartbeats 3200000 in
theorem refDecode_any (S : ByteArray) (hS : S.size ≤ 1073741824) (w : World) : Calls Tryd.prog 21 #[.string S] w (RdEnd w 0 (Pl.rd 8 S.data.toList)) := by
  have ha : Below w.heap.size w (w.alloc (.cells #[.int .i64 0, .string ⟨#[]⟩, .int .i64 0, .slice none 0 0] 24)) := (Below.refl _ _).alloc (Nat.le_refl _) _
  have A0 := Lib.hid ha
  have X0 := Lib.hid (Blk4.new (w := w) (a := .int .i64 0) (b := .string ⟨#[]⟩) (c := .int .i64 0) (d := .slice none 0 0) rfl)
  have hn := refRead_any S hS 8 (Nat.le_refl _) 0 (Nat.zero_le _) (w.alloc (.cells #[.int .i64 0, .string ⟨#[]⟩, .int .i64 0, .slice none 0 0] 24))
  rw [List.drop_zero] at hn
  rw [show ((0 : Nat) : Int) = 0 from rfl, show ((8 : Nat) : Int) = 8 from rfl] at hn
  generalize Pl.rd 8 S.data.toList = X at hn ⊢
  unfold RdEnd at hn
  clear ha
  cases X with
  | bad =>
    have HN := Lib.hid hn
    clear hn
    go_enter Tryd.func21, Tryd.ntmps21
    go_wp2_with fail
    ((with_reducible refine HN.out.mono ?_); rintro e w4 ⟨rfl, b4⟩)
    have X4 := Lib.hid (X0.out.later b4)
    have B4 := Lib.hid (A0.out.trans (b4.mono A0.out.size))
    have X5 := Lib.hid (fun o => X4.out.alloc o)
    have x5 := fun o => (X5.out o).cells
    have x6 := fun o i => (X5.out o).free i
    clear b4
    go_wp2
    exact bodyPost_ret (read_end rfl rfl (((((X5.out _).set0 _).set1 _).set2 _).set3 _)) rfl (RdEnd.isBad rfl (below4 (B4.out.alloc B4.out.size _) (Nat.le_refl _) _ _ _ _))
  | more =>
    have HN := Lib.hid hn
    clear hn
    go_enter Tryd.func21, Tryd.ntmps21
    go_wp2_with fail
    ((with_reducible refine HN.out.mono ?_); rintro e w4 ⟨rfl, b4⟩)
    have X4 := Lib.hid (X0.out.later b4)
    have B4 := Lib.hid (A0.out.trans (b4.mono A0.out.size))
    have X5 := Lib.hid (fun o => X4.out.alloc o)
    have x5 := fun o => (X5.out o).cells
    have x6 := fun o i => (X5.out o).free i
    clear b4
    go_wp2
    exact bodyPost_ret (read_end rfl rfl (((((X5.out _).set0 _).set1 _).set2 _).set3 _)) rfl (RdEnd.isMore rfl (below4 (B4.out.alloc B4.out.size _) (Nat.le_refl _) _ _ _ _))
  | ok r k =>
    simp only at hn
    have HN := Lib.hid hn
    clear hn
    go_enter Tryd.func21, Tryd.ntmps21
    go_wp2_with fail
    ((with_reducible refine HN.out.mono ?_); rintro e w4 ⟨⟨lv, rfl, hr⟩, b4⟩)
    obtain ⟨al, cl, rfl⟩ := hr.shape
    have HR := Lib.hid (hr.mono (base' := w.heap.size + 1) (by simp))
    have HR5 := Lib.hid (fun o => HR.out.later (w' := w4.alloc o) ((Below.refl _ _).alloc (Nat.le_refl _) _))
    have X4 := Lib.hid (X0.out.later b4)
    have B4 := Lib.hid (A0.out.trans (b4.mono A0.out.size))
    have X5 := Lib.hid (fun o => X4.out.alloc o)
    have x5 := fun o => (X5.out o).cells
    have x6 := fun o i => (X5.out o).free i
    clear hr b4
    go_wp2
    exact bodyPost_ret (read_end rfl rfl (((((X5.out _).set0 _).set1 _).set2 _).set3 _)) rfl (RdEnd.isOk (lv := .slice al r.l.length cl) rfl (by simp) (((((HR5.out _).set ⟨w.heap.size, 0, none⟩ (by simp) _).set ⟨w.heap.size, 1, none⟩ (by simp) _).set ⟨w.heap.size, 2, none⟩ (by simp) _).set ⟨w.heap.size, 3, none⟩ (by simp) _ |>.mono (by omega)) (below4 (B4.out.alloc B4.out.size _) (Nat.le_refl _) _ _ _ _))
/-- The reply, the place and the error that a reader tells. -/
def rdR (x : Rd) : R := match x with | .ok r _ => r | _ => .mk 0 [] 0 []
def rdK (x : Rd) : Int := match x with | .ok _ k => k | _ => 0
def rdE (x : Rd) : Int := match x with | .ok _ _ => 0 | .bad => 30 | .more => 31
theorem rdR_ok (d : Nat) (l : List UInt8) (hl : l.length ≤ 1073741824) : OkR (rdR (Pl.rd d l)) := by
  cases h : Pl.rd d l with
  | bad => simp [rdR, OkR, R.n, R.t, R.l]
  | more => simp [rdR, OkR, R.n, R.t, R.l]
  | ok r k =>
    obtain ⟨a, b, c, e⟩ := Pl.rd_small h
    exact ⟨c, e, by show r.t.length ≤ _; omega, by show r.l.length ≤ _; omega⟩
/-- What a reader gives, in one form. -/
def RdUni (w : World) (r : R) (k c : Int) (e : Ending) (w' : World) : Prop := (∃ lv, e = .returned (.tuple #[rv r lv, .int .i64 k, .int .i64 c]) ∧ RRow w.heap.size w' lv r.l) ∧ Below w.heap.size w w'
theorem RdEnd.uni {w w' : World} {x : Rd} {e : Ending} (h : RdEnd w 0 x e w') : RdUni w (rdR x) (rdK x) (rdE x) e w' := by
  obtain ⟨h, hb⟩ := h
  cases x with
  | bad => exact ⟨⟨.slice none 0 0, h, RRow.nil _ _⟩, hb⟩
  | more => exact ⟨⟨.slice none 0 0, h, RRow.nil _ _⟩, hb⟩
  | ok r k =>
    obtain ⟨lv, h1, h2⟩ := h
    exact ⟨⟨lv, by rw [h1]; simp [rdR, rdK, rdE], h2⟩, hb⟩
theorem decode_uni (S : ByteArray) (hS : S.size ≤ 1073741824) {r : R} {k c : Int} (hr : rdR (Pl.rd 8 S.data.toList) = r) (hk : rdK (Pl.rd 8 S.data.toList) = k) (hc : rdE (Pl.rd 8 S.data.toList) = c) (w : World) (hE : Env w) : Calls Tryd.prog 20 #[.string S] w (RdUni w r k c) := by
  subst hr hk hc
  exact (decode_any S hS w hE).mono fun e w' h => h.uni
theorem refDecode_uni (S : ByteArray) (hS : S.size ≤ 1073741824) {r : R} {k c : Int} (hr : rdR (Pl.rd 8 S.data.toList) = r) (hk : rdK (Pl.rd 8 S.data.toList) = k) (hc : rdE (Pl.rd 8 S.data.toList) = c) (w : World) : Calls Tryd.prog 21 #[.string S] w (RdUni w r k c) := by
  subst hr hk hc
  exact (refDecode_any S hS w).mono fun e w' h => h.uni
end Go.Proofs.YtpngmbdchceikaaDoor
