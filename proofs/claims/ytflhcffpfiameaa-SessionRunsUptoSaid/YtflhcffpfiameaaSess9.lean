/- The walks of a session's methods: where there is no session; DISCARD, UNWATCH, the flags. -/
import Derived.Test.YtflhcffpfiameaaSess8
namespace Go.Proofs.Ytflhcffpfiameaa
open Go.ChangeShapes Go.WideShapes Go.ChangeAt Go.RowKit Go.Maps
set_option linter.unusedVariables false

set_option maxHeartbeats 400000 in
theorem multi_nil (w : World) : Calls Try.prog 17 #[.pointer none] w fun e w' => e = .returned (.bool false) ∧ w = w' := by
  go_enter Try.func17, Try.ntmps17
  go_wp2
  go_ret
  exact ⟨rfl, rfl⟩
set_option maxHeartbeats 400000 in
theorem dirty_nil (w : World) : Calls Try.prog 25 #[.pointer none] w fun e w' => e = .returned (.bool false) ∧ w = w' := by
  go_enter Try.func25, Try.ntmps25
  go_wp2
  go_ret
  exact ⟨rfl, rfl⟩
set_option maxHeartbeats 400000 in
theorem refused_nil (w : World) : Calls Try.prog 13 #[.pointer none] w fun e w' => e = .returned (.bool false) ∧ w = w' := by
  go_enter Try.func13, Try.ntmps13
  go_wp2
  go_ret
  exact ⟨rfl, rfl⟩
set_option maxHeartbeats 400000 in
theorem queued_nil (w : World) : Calls Try.prog 20 #[.pointer none] w fun e w' => e = .returned (.slice none 0 0) ∧ w = w' := by
  go_enter Try.func20, Try.ntmps20
  go_wp2
  go_ret
  exact ⟨rfl, rfl⟩
set_option maxHeartbeats 400000 in
theorem watched_nil (w : World) : Calls Try.prog 21 #[.pointer none] w fun e w' => e = .returned (.slice none 0 0) ∧ w = w' := by
  go_enter Try.func21, Try.ntmps21
  go_wp2
  go_ret
  exact ⟨rfl, rfl⟩
set_option maxHeartbeats 400000 in
theorem reset_nil (w : World) : Calls Try.prog 22 #[.pointer none] w fun e w' => e = .returned (.tuple #[]) ∧ w = w' := by
  go_enter Try.func22, Try.ntmps22
  go_wp2
  go_end0
  exact ⟨rfl, rfl⟩
set_option maxHeartbeats 400000 in
theorem touch_nil (v : Value) (w : World) : Calls Try.prog 15 #[.pointer none, v] w fun e w' => e = .returned (.tuple #[]) ∧ w = w' := by
  go_enter Try.func15, Try.ntmps15
  go_wp2
  refine bodyPost_ret (v := .tuple #[]) (by simp [results, Try.results15, go_sem]) rfl ⟨rfl, rfl⟩
set_option maxHeartbeats 400000 in
theorem refuse_nil (w : World) : Calls Try.prog 10 #[.pointer none] w fun e w' => e = .returned (.tuple #[]) ∧ w = w' := by
  go_enter Try.func10, Try.ntmps10
  go_wp2_with fail
  ((with_reducible refine (multi_nil _).mono ?_); rintro e w1 ⟨rfl, rfl⟩)
  go_wp2
  go_end0
  exact ⟨rfl, rfl⟩
set_option maxHeartbeats 400000 in
theorem exec_nil (w : World) : Calls Try.prog 16 #[.pointer none] w fun e w' => e = .returned (.tuple #[.slice none 0 0, .int .i64 0]) ∧ w = w' := by
  go_enter Try.func16, Try.ntmps16
  go_wp2_with fail
  ((with_reducible refine (multi_nil _).mono ?_); rintro e w1 ⟨rfl, rfl⟩)
  go_wp2
  go_ret2
  exact ⟨rfl, rfl⟩
set_option maxHeartbeats 400000 in
theorem begin_nil (w : World) : Calls Try.prog 12 #[.pointer none] w fun e w' => e = .returned (replyV 2 ⟨#[69, 82, 82, 32, 77, 85, 76, 84, 73, 32, 119, 105, 116, 104, 105, 110, 32, 77, 85, 76, 84, 73]⟩) ∧ Below w.heap.size w w' := by
  go_enter Try.func12, Try.ntmps12
  go_wp2_with fail
  ((with_reducible refine (fault_any _ _).mono ?_); rintro e w1 ⟨rfl, b1⟩)
  have HBX := Lib.hid (boxed_at b1)
  obtain ⟨k0, k1, k2, k3, z0⟩ := box_cells HBX.out
  go_wp2
  refine bodyPost_ret (reply_end rfl _ w.heap.size rfl Try.underlying31 (by kernel_rfl) HBX.out rfl _ _ _ _) rfl ⟨rfl, ?_⟩
  exact ((((Wr.refl (fun _ => False) w).alloc _).trans (Wr.of_below b1) (Grew.refl _ _)).reply (Nat.le_refl _) _ _ _ _).below (fun k hk => hk.elim) (Nat.le_refl _)
set_option maxHeartbeats 400000 in
theorem queue_nil (v : Value) (w : World) : Calls Try.prog 14 #[.pointer none, v] w fun e w' => e = .returned (replyV 2 ⟨#[69, 82, 82, 32, 69, 88, 69, 67, 32, 119, 105, 116, 104, 111, 117, 116, 32, 77, 85, 76, 84, 73]⟩) ∧ Below w.heap.size w w' := by
  go_enter Try.func14, Try.ntmps14
  go_wp2_with fail
  ((with_reducible refine (multi_nil _).mono ?_); rintro e w1 ⟨rfl, rfl⟩)
  go_wp2_with fail
  ((with_reducible refine (fault_any _ _).mono ?_); rintro e w1 ⟨rfl, b1⟩)
  have HBX := Lib.hid (boxed_at b1)
  obtain ⟨k0, k1, k2, k3, z0⟩ := box_cells HBX.out
  go_wp2
  refine bodyPost_ret (reply_end rfl _ w.heap.size rfl Try.underlying31 (by kernel_rfl) HBX.out rfl _ _ _ _) rfl ⟨rfl, ?_⟩
  exact ((((Wr.refl (fun _ => False) w).alloc _).trans (Wr.of_below b1) (Grew.refl _ _)).reply (Nat.le_refl _) _ _ _ _).below (fun k hk => hk.elim) (Nat.le_refl _)
set_option maxHeartbeats 400000 in
theorem discard_nil (w : World) : Calls Try.prog 24 #[.pointer none] w fun e w' => e = .returned (replyV 2 ⟨#[69, 82, 82, 32, 68, 73, 83, 67, 65, 82, 68, 32, 119, 105, 116, 104, 111, 117, 116, 32, 77, 85, 76, 84, 73]⟩) ∧ Below w.heap.size w w' := by
  go_enter Try.func24, Try.ntmps24
  go_wp2_with fail
  ((with_reducible refine (multi_nil _).mono ?_); rintro e w1 ⟨rfl, rfl⟩)
  go_wp2_with fail
  ((with_reducible refine (fault_any _ _).mono ?_); rintro e w1 ⟨rfl, b1⟩)
  have HBX := Lib.hid (boxed_at b1)
  obtain ⟨k0, k1, k2, k3, z0⟩ := box_cells HBX.out
  go_wp2
  refine bodyPost_ret (reply_end rfl _ w.heap.size rfl Try.underlying31 (by kernel_rfl) HBX.out rfl _ _ _ _) rfl ⟨rfl, ?_⟩
  exact ((((Wr.refl (fun _ => False) w).alloc _).trans (Wr.of_below b1) (Grew.refl _ _)).reply (Nat.le_refl _) _ _ _ _).below (fun k hk => hk.elim) (Nat.le_refl _)
set_option maxHeartbeats 400000 in
theorem watch_nil (v : Value) (w : World) : Calls Try.prog 11 #[.pointer none, v] w fun e w' => e = .returned (replyV 2 ⟨#[69, 82, 82, 32, 87, 65, 84, 67, 72, 32, 119, 105, 116, 104, 105, 110, 32, 77, 85, 76, 84, 73]⟩) ∧ Below w.heap.size w w' := by
  go_enter Try.func11, Try.ntmps11
  go_wp2_with fail
  ((with_reducible refine (fault_any _ _).mono ?_); rintro e w1 ⟨rfl, b1⟩)
  have HBX := Lib.hid (boxed_at b1)
  obtain ⟨k0, k1, k2, k3, z0⟩ := box_cells HBX.out
  go_wp2
  refine bodyPost_ret (reply_end rfl _ w.heap.size rfl Try.underlying31 (by kernel_rfl) HBX.out rfl _ _ _ _) rfl ⟨rfl, ?_⟩
  exact ((((Wr.refl (fun _ => False) w).alloc _).trans (Wr.of_below b1) (Grew.refl _ _)).reply (Nat.le_refl _) _ _ _ _).below (fun k hk => hk.elim) (Nat.le_refl _)
set_option maxHeartbeats 400000 in
theorem unwatch_nil (w : World) : Calls Try.prog 28 #[.pointer none] w fun e w' => e = .returned (replyV 1 ⟨#[79, 75]⟩) ∧ Below w.heap.size w w' := by
  go_enter Try.func28, Try.ntmps28
  go_wp2_with fail
  ((with_reducible refine (simple_any _ _).mono ?_); rintro e w1 ⟨rfl, b1⟩)
  have HBX := Lib.hid (boxed_at b1)
  obtain ⟨k0, k1, k2, k3, z0⟩ := box_cells HBX.out
  go_wp2
  refine bodyPost_ret (reply_end rfl _ w.heap.size rfl Try.underlying31 (by kernel_rfl) HBX.out rfl _ _ _ _) rfl ⟨rfl, ?_⟩
  exact ((((Wr.refl (fun _ => False) w).alloc _).trans (Wr.of_below b1) (Grew.refl _ _)).reply (Nat.le_refl _) _ _ _ _).below (fun k hk => hk.elim) (Nat.le_refl _)
set_option maxHeartbeats 400000 in
theorem dirty_any {w : World} {b : Nat} {F : Nat → Prop} {S : SessM} (h : Sess w b F S) :
    Calls Try.prog 25 #[.pointer (some ⟨b, 0, none⟩)] w fun e w' => e = .returned (.bool S.dirty) ∧ w = w' := by
  obtain ⟨qv, bm, D, h⟩ := h
  obtain ⟨c0, c1, c2, c3, c4, c5⟩ := h.cells
  go_enter Try.func25, Try.ntmps25
  go_wp2
  go_ret
  exact ⟨rfl, rfl⟩
end Go.Proofs.Ytflhcffpfiameaa
