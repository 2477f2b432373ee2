/- Decode, the program's; awake. -/
import Derived.Test.YtpngmbdchceikaaDoorRead
import Derived.Test.YtpngmbdchceikaaDoorEnc
namespace Go.Proofs.YtpngmbdchceikaaDoor
open Go.ChangeShapes Go.WideShapes Go.ChangeAt Go.RowKit
open Pl (R Rd)
set_option linter.unusedVariables false

set_option maxRecDepth 100000 in
set_option maxHeartbeats 3200000 in
theorem decode_any (S : ByteArray) (hS : S.size ≤ 1073741824) (w : World) (hE : Env w) : Calls Tryd.prog 20 #[.string S] w (RdEnd w 0 (Pl.rd 8 S.data.toList)) := by
  have ha : Below w.heap.size w (w.alloc (.cells #[.int .i64 0, .string ⟨#[]⟩, .int .i64 0, .slice none 0 0] 24)) := (Below.refl _ _).alloc (Nat.le_refl _) _
  have A0 := Lib.hid ha
  have X0 := Lib.hid (Blk4.new (w := w) (a := .int .i64 0) (b := .string ⟨#[]⟩) (c := .int .i64 0) (d := .slice none 0 0) rfl)
  have hn := read_any S hS 8 (Nat.le_refl _) 0 (Nat.zero_le _) _ (hE.kept ha)
  rw [List.drop_zero] at hn
  rw [show ((0 : Nat) : Int) = 0 from rfl, show ((8 : Nat) : Int) = 8 from rfl] at hn
  generalize Pl.rd 8 S.data.toList = X at hn ⊢
  unfold RdEnd at hn
  clear hE ha
  cases X with
  | bad =>
    have HN := Lib.hid hn
    clear hn
    go_enter Tryd.func20, Tryd.ntmps20
    go_wp2_with fail
    ((with_reducible refine HN.out.mono ?_); rintro e w4 ⟨rfl, b4⟩)
    have X4 := Lib.hid (X0.out.later b4)
    have B4 := Lib.hid (A0.out.trans (b4.mono A0.out.size))
    have X5 := Lib.hid (fun o => X4.out.alloc o)
    have x5 := fun o => (X5.out o).cells
    have x6 := fun o i => (X5.out o).free i
    clear b4
    go_wp2
    exact bodyPost_ret (read_end rfl rfl (((((X5.out _).set0 _).set1 _).set2 _).set3 _)) rfl (RdEnd.isBad rfl (below4 (B4.out.alloc B4.out.size _) (Nat.le_refl _) _ _ _ _))
  | more =>
    have HN := Lib.hid hn
    clear hn
    go_enter Tryd.func20, Tryd.ntmps20
    go_wp2_with fail
    ((with_reducible refine HN.out.mono ?_); rintro e w4 ⟨rfl, b4⟩)
    have X4 := Lib.hid (X0.out.later b4)
    have B4 := Lib.hid (A0.out.trans (b4.mono A0.out.size))
    have X5 := Lib.hid (fun o => X4.out.alloc o)
    have x5 := fun o => (X5.out o).cells
    have x6 := fun o i => (X5.out o).free i
    clear b4
    go_wp2
    exact bodyPost_ret (read_end rfl rfl (((((X5.out _).set0 _).set1 _).set2 _).set3 _)) rfl (RdEnd.isMore rfl (below4 (B4.out.alloc B4.out.size _) (Nat.le_refl _) _ _ _ _))
  | ok r k =>
    simp only at hn
    have HN := Lib.hid hn
    clear hn
    go_enter Tryd.func20, Tryd.ntmps20
    go_wp2_with fail
    ((with_reducible refine HN.out.mono ?_); rintro e w4 ⟨⟨lv, rfl, hr⟩, b4⟩)
    obtain ⟨al, cl, rfl⟩ := hr.shape
    have HR := Lib.hid (hr.mono (base' := w.heap.size + 1) (by simp))
    have HR5 := Lib.hid (fun o => HR.out.later (w' := w4.alloc o) ((Below.refl _ _).alloc (Nat.le_refl _) _))
    have X4 := Lib.hid (X0.out.later b4)
    have B4 := Lib.hid (A0.out.trans (b4.mono A0.out.size))
    have X5 := Lib.hid (fun o => X4.out.alloc o)
    have x5 := fun o => (X5.out o).cells
    have x6 := fun o i => (X5.out o).free i
    clear hr b4
    go_wp2
    exact bodyPost_ret (read_end rfl rfl (((((X5.out _).set0 _).set1 _).set2 _).set3 _)) rfl (RdEnd.isOk (lv := .slice al r.l.length cl) rfl (by simp) (((((HR5.out _).set ⟨w.heap.size, 0, none⟩ (by simp) _).set ⟨w.heap.size, 1, none⟩ (by simp) _).set ⟨w.heap.size, 2, none⟩ (by simp) _).set ⟨w.heap.size, 3, none⟩ (by simp) _ |>.mono (by omega)) (below4 (B4.out.alloc B4.out.size _) (Nat.le_refl _) _ _ _ _))
theorem itoa_four : Lib.itoa 4 = [52] := by
  unfold Lib.itoa
  rw [if_neg (by omega), show (4 : Int).toNat = 4 from rfl, Lib.decDigits_one (by omega)]; rfl
theorem awake_enc : encV (.mk 4 [97, 13, 10, 98] 0 []) = .tuple #[.string ⟨#[36, 52, 13, 10, 97, 13, 10, 98, 13, 10]⟩, .int .i64 0] := by
  unfold encV
  rw [may_4, enc_4, show (([97, 13, 10, 98] : List UInt8).length : Int) = 4 from rfl, itoa_four]
  rfl
theorem awake_dec : Pl.rd 8 (⟨#[58, 45, 53, 13, 10, 120]⟩ : ByteArray).data.toList = .ok (.mk 3 [] (-5) []) 5 := by
  have h := Pl.rd_back 8 (.mk 3 [] (-5) []) (by rw [may_3]; rfl) (Pl.flat_wf 8 (by decide) (by decide) (by decide) rfl) [120]
  rw [enc_3, itoa_five] at h
  exact h
set_option maxRecDepth 100000 in
set_option maxHeartbeats 1600000 in
theorem awake_any (w : World) (hE : Env w) : Calls Tryd.prog 19 #[] w fun e w' => e = .returned (.bool true) ∧ Below w.heap.size w w' := by
  have h1 := encode_any (.mk 4 [97, 13, 10, 98] 0 []) (.slice none 0 0) (fun _ => True) w ⟨by decide, by decide, by decide, by decide⟩ (.nil _ _) hE.1 (fun _ => by rw [enc_4, show (([97, 13, 10, 98] : List UInt8).length : Int) = 4 from rfl, itoa_four]; decide)
  rw [awake_enc] at h1
  have H1 : Hid (Calls Tryd.prog 14 #[.agg #[.int .i64 4, .string ⟨#[97, 13, 10, 98]⟩, .int .i64 0, .slice none 0 0]] w fun e w' => e = .returned (.tuple #[.string ⟨#[36, 52, 13, 10, 97, 13, 10, 98, 13, 10]⟩, .int .i64 0]) ∧ Below w.heap.size w w') := Lib.hid h1
  have h2 := fun W h => decode_any ⟨#[58, 45, 53, 13, 10, 120]⟩ (by decide) W h
  rw [awake_dec] at h2
  have H2 : Hid (∀ W, Env W → Calls Tryd.prog 20 #[.string ⟨#[58, 45, 53, 13, 10, 120]⟩] W fun e w' => (∃ lv, e = .returned (.tuple #[.agg #[.int .i64 3, .string ⟨#[]⟩, .int .i64 (-5), lv], .int .i64 5, .int .i64 0]) ∧ RRow W.heap.size w' lv []) ∧ Below W.heap.size W w') := Lib.hid h2
  have HE := Lib.hid hE
  clear h1 h2 hE
  go_enter Tryd.func19, Tryd.ntmps19
  go_wp2_with fail
  ((with_reducible refine H1.out.mono ?_); rintro e w4 ⟨rfl, b4⟩)
  have E4 := Lib.hid (HE.out.kept b4)
  have B4 := Lib.hid b4
  clear b4
  go_wp2_with fail
  ((with_reducible refine (H2.out _ E4.out).mono ?_); rintro e w5 ⟨⟨lv, rfl, hr⟩, b5⟩)
  obtain ⟨al, cl, rfl⟩ := hr.shape
  have B5 := Lib.hid (B4.out.trans (b5.mono B4.out.size))
  clear b5 hr
  go_wp2
  go_ret
  exact ⟨rfl, B5.out.alloc B5.out.size _⟩
end Go.Proofs.YtpngmbdchceikaaDoor
