/- The disk of the program: names that last; what is told of them; a new disk. -/
import Derived.Test.YtbjlffhnkcbnmaaDsk8
import Derived.Test.YtbjlffhnkcbnmaaIterL
import Derived.Sort.KeysCollected
namespace Go.Proofs.Ytbjlffhnkcbnmaa
open Go.ChangeShapes Go.WideShapes Go.ChangeAt Go.RowKit Go.Maps Go.Sort Go.Shelf
open Pl (Tx Fl Ch Nm Dk)
set_option linter.unusedVariables false

set_option maxHeartbeats 400000 in
set_option maxRecDepth 100000 in
theorem mclone_any {b : Nat} {φ : Nat → Nat} {l : Nm} (w : World) (hm : FMap w b φ l) :
    Calls Try.prog 35 #[.map (some b)] w fun e w' => e = .returned (.map (some w.heap.size)) ∧ FMap w' w.heap.size φ l ∧ Below w.heap.size w w' := by
  obtain ⟨D, hown, hf⟩ := hm
  obtain ⟨es, clock, hb, F, hs, hD⟩ := hown
  have hq := fun w => run_eql_map_nil_sl (P := Try.prog) w 66 _ _ (some b) Try.underlying66
  have HD := Lib.hid hD
  have HF := Lib.hid F
  have HFF := Lib.hid hf
  clear hD F hf
  go_enter Try.func35, Try.ntmps35
  go_wp2
  rw [run_callFunc_extern Try.func54 (by kernel_rfl) (by kernel_rfl) (by kernel_rfl) (e := Extern.MapsClone.clone) (by kernel_rfl), run_maps_clone_sl w 66 hb]
  simp only [Result.andThen]
  rw [Oper.upon_value]
  go_wp2
  rw [run_typeAssert_map_sl _ 66 20 _ _ _ Try.underlying66]
  simp only [Result.andThen]
  rw [Oper.upon_value]
  go_wp2
  go_ret
  exact ⟨rfl, ⟨D, ⟨es, clock, heap_alloc_new w _, HF.out, hs, HD.out⟩, HFF.out⟩, (Below.refl _ w).alloc (Nat.le_refl _) _⟩
/-- Two cells of the disk's own block are written: the lasting names, the open changes. -/
theorem DiskAt.lasts {w : World} {b : Nat} {F : Nat → Prop} {φ : Nat → Nat} {S : Dk} {nm lm : Nat} {ov pv : Value} (h : DiskAt w b F φ S nm lm ov pv) {g : Nat} (hm : FMap w g φ S.names) (hg : g ≠ nm) :
    DiskAt ((w.setCell ⟨b, 1, none⟩ (.map (some g))).setCell ⟨b, 2, none⟩ (.slice none 0 0)) b (fun k => F k ∨ k = g) φ { S with last := S.names, opn := [] } nm g (.slice none 0 0) pv := by
  have ho : ∀ k, k ≠ b → ((w.setCell ⟨b, 1, none⟩ (.map (some g))).setCell ⟨b, 2, none⟩ (.slice none 0 0)).heap[k]? = w.heap[k]? := fun k hk => by
    rw [Below.heap_setCell _ _ _ _ hk, Below.heap_setCell _ _ _ _ hk]
  have hs : ((w.setCell ⟨b, 1, none⟩ (.map (some g))).setCell ⟨b, 2, none⟩ (.slice none 0 0)).heap.size = w.heap.size := by rw [heap_setCell_size, heap_setCell_size]
  have hgb : g ≠ b := fun e => hm.notCells h.block e.symm
  exact {
    lt := fun k hk => by rw [hs]; rcases hk with hk | rfl; exact h.lt k hk; exact hm.lt
    own := .inl h.own
    ownN := .inl h.ownN
    ownL := .inr rfl
    ne := hg.symm
    block := heap_setCell_same (heap_setCell_same h.block)
    names := h.names.same (ho nm fun e => h.names.notCells h.block e.symm)
    last := hm.same (ho g hgb)
    files := fun i f hf => by
      obtain ⟨f1, f2⟩ := h.files i f hf
      exact ⟨(ho _ (h.notb (by decide) f1)).trans f1, .inl f2⟩
    inj := h.inj
    opn := RowC.nil _ _ _ _
    plan := (h.plan.same (by rw [hs]; exact Nat.le_refl _) fun k cur fz _ hk => ho k (h.notb (by decide) hk)).mono fun k hk => .inl hk }
set_option maxRecDepth 100000 in
set_option maxHeartbeats 1600000 in
theorem syncNames_any {w : World} {b j : Nat} {F : Nat → Prop} {S : Dk} (h : Dsk w b F S) (hI : S.Inv) (hS : S.Small j) (hj : j ≤ 32768) :
    Calls Try.prog 27 #[.pointer (some ⟨b, 0, none⟩)] w (OpEnd b F S.namesS (.int .i64 S.namesE) w) := by
  obtain ⟨φ, h⟩ := h
  have H := Lib.hid h
  have HSt := step_any h (by have := hS.steps; omega) hS.plan
  unfold StepEnd at HSt
  obtain ⟨v1, v2, v3, hv0⟩ := hitV_three S
  rw [hv0] at HSt
  have c5 := (show w.cell? ⟨b, 5, none⟩ = some (.bool S.down) by obtain ⟨_, _, _, _, h⟩ := h; exact h.cells.2.2.2.2.2)
  cases hd : S.down with
  | true =>
    rw [hd] at c5
    have HR := Lib.hid (show S.namesE = 53 ∧ S.namesS = S from ⟨by unfold Dk.namesE; rw [if_pos hd], by unfold Dk.namesS; rw [if_pos hd]⟩)
    clear h hd HSt hv0
    go_enter Try.func27, Try.ntmps27
    go_wp2
    go_ret
    exact ⟨by rw [HR.out.1]; rfl, by rw [HR.out.2]; exact Leaves.same H.out (Wr.refl _ _)⟩
  | false =>
  rw [hd] at c5
  by_cases hfe : S.faultE = 0
  · rw [hfe] at HSt
    replace HSt := Lib.hid HSt
    have HR := Lib.hid (show S.namesE = 0 ∧ S.namesS = { S.faultS with last := S.names, opn := [] } from ⟨by unfold Dk.namesE; rw [if_neg (by simp [hd]), hfe], by unfold Dk.namesS; rw [if_neg (by simp [hd]), if_neg (by omega)]⟩)
    clear h hfe hv0 hd
    go_enter Try.func27, Try.ntmps27
    go_wp2_with fail
    ((with_reducible refine HSt.out.mono ?_); rintro e w2 ⟨rfl, d2, r2⟩)
    obtain ⟨nm, lm, ov, pv, d2⟩ := d2
    have HD2 := Lib.hid (And.intro d2 r2)
    have c0 := fun o => (d2.alloc o).cells.1
    have hC := fun o => mclone_any (w2.alloc o) (d2.alloc o).names
    have HC := Lib.hid hC
    have hblt := d2.lt b d2.own
    clear d2 r2 hC
    go_wp2_with fail
    (refine (HC.out _).mono ?_; rintro e w4 ⟨rfl, m4, b4⟩)
    have hd4 := (HD2.out.1.alloc (.cells #[.int .i64 v1, .int .i64 v2, .int .i64 v3] 58)).below b4
    obtain ⟨-, q1, q2, -, -, -⟩ := hd4.cells
    have g1 := hd4.free 1
    have g2 := hd4.free 2
    have hnl := HD2.out.1.lt nm HD2.out.1.ownN
    rw [show (w2.alloc (.cells #[.int .i64 v1, .int .i64 v2, .int .i64 v3] 58)).heap.size = w2.heap.size + 1 by simp] at m4
    have H4 := Lib.hid (show DiskAt _ b _ φ _ nm _ _ pv ∧ Wr F w w4 from ⟨hd4.lasts m4 (by omega), (HD2.out.2.alloc _).trans (Wr.of_below b4) (Grew.refl _ _)⟩)
    have HB := Lib.hid hd4.own
    clear hd4 b4 m4
    go_wp2
    go_ret
    refine ⟨by rw [HR.out.1]; rfl, ?_⟩
    rw [HR.out.2]
    refine ⟨_, ⟨φ, H4.out.1.disk⟩, fun k hk => Or.imp id (fun e => by have := HD2.out.2.size; omega) hk, (H4.out.2.setCell (p := ⟨b, 1, none⟩) HB.out _).setCell (p := ⟨b, 2, none⟩) HB.out _⟩
  · obtain ⟨fe, hfe2⟩ : ∃ fe, S.faultE = fe := ⟨_, rfl⟩
    rw [hfe2] at hfe HSt
    replace HSt := Lib.hid HSt
    have HR := Lib.hid (show S.namesE = fe ∧ S.namesS = S.faultS from ⟨by unfold Dk.namesE; rw [if_neg (by simp [hd]), hfe2], by unfold Dk.namesS; rw [if_neg (by simp [hd]), if_pos (by omega)]⟩)
    have b1 : ((fe : Int) == 0) = false := by rw [beq_eq_false_iff_ne]; omega
    clear h hfe hfe2 hv0 hd
    go_enter Try.func27, Try.ntmps27
    go_wp2_with fail
    ((with_reducible refine HSt.out.mono ?_); rintro e w2 ⟨rfl, d2, r2⟩)
    have HD2 := Lib.hid (And.intro d2 r2)
    clear d2 r2
    go_wp2
    go_ret
    exact ⟨by rw [HR.out.1]; rfl, by rw [HR.out.2]; exact Leaves.same (HD2.out.1.alloc _) (HD2.out.2.alloc _)⟩
end Go.Proofs.Ytbjlffhnkcbnmaa
