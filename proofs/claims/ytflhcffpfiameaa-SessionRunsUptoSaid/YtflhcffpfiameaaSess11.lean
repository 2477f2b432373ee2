/- Let go, DISCARD, EXEC, UNWATCH: the program's and the document's. -/
import Derived.Test.YtflhcffpfiameaaSess10
namespace Go.Proofs.Ytflhcffpfiameaa
open Go.ChangeShapes Go.WideShapes Go.ChangeAt Go.RowKit Go.Maps
set_option linter.unusedVariables false

set_option maxHeartbeats 400000 in
theorem rreset_any {w : World} {b : Nat} {F : Nat → Prop} {S : SessM} (h : RSess w b F S) :
    Calls Try.prog 43 #[.pointer (some ⟨b, 0, none⟩)] w fun e w' => e = .returned (.tuple #[]) ∧ RSess w' b F S.gone ∧ Wr F w w' ∧ (∀ k, k ≠ b → w'.heap[k]? = w.heap[k]?) ∧ w'.heap.size = w.heap.size := by
  obtain ⟨qv, wv, h⟩ := h
  obtain ⟨c0, c1, c2, c3, c4, c5⟩ := h.cells
  have f0 := h.free 0
  have f1 := h.free 1
  have f2 := h.free 2
  have f3 := h.free 3
  have f4 := h.free 4
  have f5 := h.free 5
  have H := Lib.hid h
  clear h
  go_enter Try.func43, Try.ntmps43
  go_wp2
  go_end0
  have ho := H.out.own
  refine ⟨rfl, ⟨.slice none 0 0, .slice none 0 0, ⟨fun k hk => by simp only [heap_setCell_size]; exact H.out.lt k hk, ho, ?_, RowsR.nil _ _, ?_⟩⟩, ((((((Wr.refl _ _).setCell (p := ⟨b, 0, none⟩) ho _).setCell (p := ⟨b, 1, none⟩) ho _).setCell (p := ⟨b, 2, none⟩) ho _).setCell (p := ⟨b, 3, none⟩) ho _).setCell (p := ⟨b, 4, none⟩) ho _).setCell (p := ⟨b, 5, none⟩) ho _, ?_, ?_⟩
  · rw [heap_setCell_same (heap_setCell_same (heap_setCell_same (heap_setCell_same (heap_setCell_same (heap_setCell_same H.out.block)))))]
    rfl
  · show Row _ _ _ _ ((sortK []).map strV)
    rw [sortK_nil]; exact Row.nil _ _ _
  · intro k hk
    rw [Below.heap_setCell _ _ _ _ hk, Below.heap_setCell _ _ _ _ hk, Below.heap_setCell _ _ _ _ hk, Below.heap_setCell _ _ _ _ hk, Below.heap_setCell _ _ _ _ hk, Below.heap_setCell _ _ _ _ hk]
  · simp only [heap_setCell_size]
/-! ### DISCARD -/
def SessM.disc (S : SessM) : SessM := if S.multi = true then S.gone else S
def SessM.discR (S : SessM) : Value := if S.multi = true then replyV 1 ⟨#[79, 75]⟩ else replyV 2 ⟨#[69, 82, 82, 32, 68, 73, 83, 67, 65, 82, 68, 32, 119, 105, 116, 104, 111, 117, 116, 32, 77, 85, 76, 84, 73]⟩
set_option maxHeartbeats 400000 in
theorem discard_any {w : World} {b : Nat} {F : Nat → Prop} {S : SessM} (h : Sess w b F S) :
    Calls Try.prog 24 #[.pointer (some ⟨b, 0, none⟩)] w fun e w' => e = .returned S.discR ∧ ∃ F', Sess w' b F' S.disc ∧ Grew w F F' ∧ Wr F w w' := by
  have H2 := Lib.hid (show Sess (boxed w) b F S from h.below (boxed_below w))
  have hlt := h.lt b h.own
  have hn : ¬ F w.heap.size := fun hk => Nat.lt_irrefl _ (h.lt _ hk)
  have H := Lib.hid h
  clear h
  rcases hm : S.multi with _ | _
  · rw [show S.discR = replyV 2 ⟨#[69, 82, 82, 32, 68, 73, 83, 67, 65, 82, 68, 32, 119, 105, 116, 104, 111, 117, 116, 32, 77, 85, 76, 84, 73]⟩ by unfold SessM.discR; rw [if_neg (by simp [hm])], show S.disc = S by unfold SessM.disc; rw [if_neg (by simp [hm])]]
    go_enter Try.func24, Try.ntmps24
    go_wp2_with fail
    ((refine (multi_any H2.out).mono ?_); rintro e w1 ⟨rfl, rfl⟩)
    go_wp2_with fail
    ((with_reducible refine (fault_any _ _).mono ?_); rintro e w1 ⟨rfl, b1⟩)
    have HBX := Lib.hid (boxed_at b1)
    obtain ⟨k0, k1, k2, k3, z0⟩ := box_cells HBX.out
    go_wp2
    refine bodyPost_ret (reply_end rfl _ w.heap.size rfl Try.underlying31 (by kernel_rfl) HBX.out rfl _ _ _ _) rfl ⟨rfl, ?_⟩
    obtain ⟨qv, bm, D, h⟩ := H.out
    exact ⟨F, SessAt.sess (((h.alloc _).below b1).reply hn _ _ _ _), Grew.refl _ _, (((Wr.refl F w).alloc _).trans (Wr.of_below b1) (Grew.refl _ _)).reply (Nat.le_refl _) _ _ _ _⟩
  · rw [show S.discR = replyV 1 ⟨#[79, 75]⟩ by unfold SessM.discR; rw [if_pos hm], show S.disc = S.gone by unfold SessM.disc; rw [if_pos hm]]
    go_enter Try.func24, Try.ntmps24
    go_wp2_with fail
    ((refine (multi_any H2.out).mono ?_); rintro e w1 ⟨rfl, rfl⟩)
    go_wp2_with fail
    ((refine (reset_any H2.out).mono ?_); rintro e w2 ⟨rfl, s2, r2, k2⟩)
    have hz2 := r2.size
    rw [boxed_size] at hz2
    have hbx2 : w2.heap[w.heap.size]? = some (.cells #[.int .i64 0, .string ⟨#[]⟩, .int .i64 0, .slice none 0 0] 31 (0, 0)) := (k2 _ (by omega) (by rw [boxed_size]; omega)).trans (heap_alloc_new w _)
    have HS := Lib.hid s2
    have HR := Lib.hid r2
    have HX2 := Lib.hid hbx2
    clear s2 r2 k2 hbx2
    go_wp2_with fail
    ((with_reducible refine (simple_any _ _).mono ?_); rintro e w3 ⟨rfl, b3⟩)
    have HBX := Lib.hid ((b3.block _ (by omega)).trans HX2.out)
    obtain ⟨k0, k1, k2, k3, z0⟩ := box_cells HBX.out
    go_wp2
    refine bodyPost_ret (reply_end rfl _ w.heap.size rfl Try.underlying31 (by kernel_rfl) HBX.out rfl _ _ _ _) rfl ⟨rfl, ?_⟩
    obtain ⟨qv, bm, D, h⟩ := HS.out
    refine ⟨_, SessAt.sess ((h.below b3).reply ?_ _ _ _ _), ?_, ((((Wr.refl F w).alloc _).trans HR.out (Grew.refl _ _)).trans (Wr.of_below b3) (Grew.refl _ _)).reply (Nat.le_refl _) _ _ _ _⟩
    · rintro (h1 | h1)
      · exact hn h1
      · rw [boxed_size] at h1; omega
    · exact fun k hk => hk.imp id (fun e => by rw [e, boxed_size]; omega)
set_option maxHeartbeats 400000 in
theorem rdiscard_any {w : World} {b : Nat} {F : Nat → Prop} {S : SessM} (h : RSess w b F S) :
    Calls Try.prog 38 #[.pointer (some ⟨b, 0, none⟩)] w fun e w' => e = .returned S.discR ∧ RSess w' b F S.disc ∧ Wr F w w' := by
  obtain ⟨qv, wv, h⟩ := h
  have ha := h.alloc (.cells #[.int .i64 0, .string ⟨#[]⟩, .int .i64 0, .slice none 0 0] 31)
  obtain ⟨c0, c1, c2, c3, c4, c5⟩ := ha.cells
  have HA := Lib.hid ha
  have hlt := h.lt b h.own
  have hn : ¬ F w.heap.size := fun hk => Nat.lt_irrefl _ (h.lt _ hk)
  clear ha h
  rcases hm : S.multi with _ | _
  · rw [show S.discR = replyV 2 ⟨#[69, 82, 82, 32, 68, 73, 83, 67, 65, 82, 68, 32, 119, 105, 116, 104, 111, 117, 116, 32, 77, 85, 76, 84, 73]⟩ by unfold SessM.discR; rw [if_neg (by simp [hm])], show S.disc = S by unfold SessM.disc; rw [if_neg (by simp [hm])]]
    rw [hm] at c1
    go_enter Try.func38, Try.ntmps38
    go_wp2_with fail
    ((with_reducible refine (rfail_any _ _).mono ?_); rintro e w1 ⟨rfl, b1⟩)
    have HBX := Lib.hid (boxed_at b1)
    obtain ⟨k0, k1, k2, k3, z0⟩ := box_cells HBX.out
    go_wp2
    refine bodyPost_ret (reply_end rfl _ w.heap.size rfl Try.underlying31 (by kernel_rfl) HBX.out rfl _ _ _ _) rfl ⟨rfl, ?_⟩
    exact ⟨RSessAt.sess ((HA.out.below b1).reply hn _ _ _ _), (((Wr.refl F w).alloc _).trans (Wr.of_below b1) (Grew.refl _ _)).reply (Nat.le_refl _) _ _ _ _⟩
  · rw [show S.discR = replyV 1 ⟨#[79, 75]⟩ by unfold SessM.discR; rw [if_pos hm], show S.disc = S.gone by unfold SessM.disc; rw [if_pos hm]]
    rw [hm] at c1
    go_enter Try.func38, Try.ntmps38
    go_wp2_with fail
    ((refine (rreset_any HA.out.sess).mono ?_); rintro e w2 ⟨rfl, s2, r2, k2, z2⟩)
    have hbx2 : w2.heap[w.heap.size]? = some (.cells #[.int .i64 0, .string ⟨#[]⟩, .int .i64 0, .slice none 0 0] 31 (0, 0)) := (k2 _ (by omega)).trans (heap_alloc_new w _)
    have hz2 : w2.heap.size = w.heap.size + 1 := by rw [z2]; simp
    have HS := Lib.hid s2
    have HR := Lib.hid r2
    have HX2 := Lib.hid hbx2
    clear s2 r2 k2 hbx2 z2 c0 c1 c2 c3 c4 c5
    go_wp2_with fail
    ((with_reducible refine (rok_any _ _).mono ?_); rintro e w3 ⟨rfl, b3⟩)
    have HBX := Lib.hid ((b3.block _ (by omega)).trans HX2.out)
    obtain ⟨k0, k1, k2, k3, z0⟩ := box_cells HBX.out
    go_wp2
    refine bodyPost_ret (reply_end rfl _ w.heap.size rfl Try.underlying31 (by kernel_rfl) HBX.out rfl _ _ _ _) rfl ⟨rfl, ?_⟩
    obtain ⟨qv, wv, h⟩ := HS.out
    exact ⟨RSessAt.sess ((h.below b3).reply hn _ _ _ _), ((((Wr.refl F w).alloc _).trans HR.out (Grew.refl _ _)).trans (Wr.of_below b3) (Grew.refl _ _)).reply (Nat.le_refl _) _ _ _ _⟩
/-! ### EXEC -/
def RExecEnd (S : SessM) (b : Nat) (F : Nat → Prop) (w : World) (e : Ending) (w' : World) : Prop :=
  ∃ v, e = .returned (.tuple #[v, .int .i64 S.execN]) ∧ RowsR w' F v S.execQ ∧ RSess w' b F S.execS ∧ Wr F w w'
set_option maxHeartbeats 1600000 in
theorem rexec_any {w : World} {b : Nat} {F : Nat → Prop} {S : SessM} (h : RSess w b F S) :
    Calls Try.prog 39 #[.pointer (some ⟨b, 0, none⟩)] w (RExecEnd S b F w) := by
  obtain ⟨qv, wv, h⟩ := h
  obtain ⟨qa, qc, rfl⟩ := h.rows.shape
  obtain ⟨wa, wc, rfl⟩ := h.told.shape
  rw [List.length_map] at h
  obtain ⟨c0, c1, c2, c3, c4, c5⟩ := h.cells
  have hlt := h.lt b h.own
  have H := Lib.hid h
  have HA := Lib.hid (fun o => h.alloc o)
  clear h
  rcases hm : S.multi with _ | _
  · rw [hm] at c1
    have hN : S.execN = 0 := by unfold SessM.execN; rw [if_pos hm]
    have hQ : S.execQ = [] := by unfold SessM.execQ; rw [if_neg (by simp [hm])]
    have hS : S.execS = S := by unfold SessM.execS; rw [if_pos hm]
    unfold RExecEnd
    rw [hN, hQ, hS]
    clear hN hQ hS
    go_enter Try.func39, Try.ntmps39
    go_wp2
    go_ret2
    exact ⟨.slice none 0 0, rfl, RowsR.nil _ _, H.out.sess, Wr.refl _ _⟩
  · rw [hm] at c1
    have hS : S.execS = S.gone := by unfold SessM.execS; rw [if_neg (by simp [hm])]
    unfold RExecEnd
    rw [hS]
    clear hS
    have hrows := H.out.rows
    have HRw := Lib.hid hrows
    clear hrows
    go_enter Try.func39, Try.ntmps39
    go_wp2_with fail
    ((refine (rreset_any (HA.out _).sess).mono ?_); rintro e w2 ⟨rfl, s2, r2, k2, z2⟩)
    have hbx2 : w2.heap[w.heap.size]? = some (.cells #[.int .i64 S.places, .bool true, .slice qa S.queue.length qc, .bool S.refused, .slice wa (sortK S.keys).length wc, .bool S.dirty] 64 (0, 0)) := (k2 _ (by omega)).trans (heap_alloc_new w _)
    have hr2 : RowsR w2 F (.slice qa S.queue.length qc) S.queue := by
      refine (HA.out (.cells #[.int .i64 S.places, .bool true, .slice qa S.queue.length qc, .bool S.refused, .slice wa (sortK S.keys).length wc, .bool S.dirty] 64)).rows.kept_by fun k cur e he hk => k2 k ((HA.out (.cells #[.int .i64 S.places, .bool true, .slice qa S.queue.length qc, .bool S.refused, .slice wa (sortK S.keys).length wc, .bool S.dirty] 64)).notb he hk)
    have q3 : w2.cell? ⟨w.heap.size, 3, none⟩ = some (.bool S.refused) := by simp [World.cell?, hbx2]
    have q5 : w2.cell? ⟨w.heap.size, 5, none⟩ = some (.bool S.dirty) := by simp [World.cell?, hbx2]
    have q2 : w2.cell? ⟨w.heap.size, 2, none⟩ = some (.slice qa S.queue.length qc) := by simp [World.cell?, hbx2]
    have HW := Lib.hid (((Wr.refl F w).alloc (.cells #[.int .i64 S.places, .bool true, .slice qa S.queue.length qc, .bool S.refused, .slice wa (sortK S.keys).length wc, .bool S.dirty] 64)).trans r2 (Grew.refl _ _))
    have HS2 := Lib.hid s2
    have HR2 := Lib.hid hr2
    clear s2 r2 k2 z2 hbx2 hr2 c0 c1 c2 c3 c4 c5
    rcases hr : S.refused with _ | _
    · rcases hd : S.dirty with _ | _
      · have HN : Hid (S.execN = 1) := by show S.execN = 1; unfold SessM.execN; simp [hm, hr, hd]
        have HQ : Hid (S.execQ = S.queue) := by show S.execQ = S.queue; unfold SessM.execQ; simp [hm, hr, hd]
        rw [hr] at q3
        rw [hd] at q5
        go_wp2
        go_ret2
        exact ⟨.slice qa S.queue.length qc, by rw [HN.out]; rfl, by rw [HQ.out]; exact HR2.out, HS2.out, HW.out⟩
      · have HN : Hid (S.execN = 2) := by show S.execN = 2; unfold SessM.execN; simp [hm, hr, hd]
        have HQ : Hid (S.execQ = []) := by show S.execQ = []; unfold SessM.execQ; simp [hm, hr, hd]
        rw [hr] at q3
        rw [hd] at q5
        go_wp2
        go_ret2
        exact ⟨.slice none 0 0, by rw [HN.out]; rfl, by rw [HQ.out]; exact RowsR.nil _ _, HS2.out, HW.out⟩
    · have HN : Hid (S.execN = 3) := by show S.execN = 3; unfold SessM.execN; simp [hm, hr]
      have HQ : Hid (S.execQ = []) := by show S.execQ = []; unfold SessM.execQ; simp [hm, hr]
      rw [hr] at q3
      go_wp2
      go_ret2
      exact ⟨.slice none 0 0, by rw [HN.out]; rfl, by rw [HQ.out]; exact RowsR.nil _ _, HS2.out, HW.out⟩
end Go.Proofs.Ytflhcffpfiameaa
