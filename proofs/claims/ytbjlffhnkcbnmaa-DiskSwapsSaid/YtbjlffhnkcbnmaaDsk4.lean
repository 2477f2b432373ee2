/- The disk of the program: a change of names. -/
import Derived.Test.YtbjlffhnkcbnmaaDsk3
import Derived.Deep.AppendLies
import Derived.StillTailTactics
import Derived.Deep.RegionLaw
import Derived.RegionTactic
namespace Go.Proofs.Ytbjlffhnkcbnmaa
open Go.ChangeShapes Go.WideShapes Go.ChangeAt Go.RowKit Go.Maps
open Pl (Tx Fl Ch Nm Dk)
set_option linter.unusedVariables false

theorem chCells_four (φ : Nat → Nat) (c : Ch) : ∃ x0 x1 x2 x3, chCells φ c = [x0, x1, x2, x3] ∧ x0.oneCell' = true ∧ x1.oneCell' = true ∧ x2.oneCell' = true ∧ x3.oneCell' = true := by
  unfold chCells
  split
  · exact ⟨_, _, _, _, rfl, rfl, rfl, rfl, rfl⟩
  · exact ⟨_, _, _, _, rfl, rfl, rfl, rfl, rfl⟩
theorem infoChange : (Try.prog.info? 72).map (fun i => (i.zero, i.size, i.bytes)) = some (some (.agg #[.bool false, .string ⟨#[]⟩, .string ⟨#[]⟩, .pointer none]), 4, 48) := by kernel_rfl
/-- A block of four cells: a change. -/
def BlkC (w : World) (g : Nat) (a b c d : Value) : Prop := w.heap[g]? = some (.cells #[a, b, c, d] 72 (0, 0))
namespace BlkC
variable {w w' : World} {g : Nat} {a b c d : Value}
theorem cells (h : BlkC w g a b c d) : w.cell? ⟨g, 0, none⟩ = some a ∧ w.cell? ⟨g, 1, none⟩ = some b ∧ w.cell? ⟨g, 2, none⟩ = some c ∧ w.cell? ⟨g, 3, none⟩ = some d := by
  unfold BlkC at h
  simp [World.cell?, h]
theorem kept (h : BlkC w g a b c d) (hb : w'.heap[g]? = w.heap[g]?) : BlkC w' g a b c d := hb.trans h
theorem lt (h : BlkC w g a b c d) : g < w.heap.size := (Array.getElem?_eq_some_iff.1 h).1
theorem later (h : BlkC w g a b c d) (hb : Below w.heap.size w w') : BlkC w' g a b c d := h.kept (hb.block g h.lt)
theorem new (h : g = w.heap.size) : BlkC (w.alloc (.cells #[a, b, c, d] 72)) g a b c d := by subst h; exact heap_alloc_new w _
theorem alloc (h : BlkC w g a b c d) (o : Obj) : BlkC (w.alloc o) g a b c d := (heap_alloc_old w o h.lt).trans h
end BlkC
/-- The map of names alone is written. -/
theorem DiskAt.updN {w w' : World} {b : Nat} {F : Nat → Prop} {φ : Nat → Nat} {S : Dk} {nm lm : Nat} {ov pv : Value} (h : DiskAt w b F φ S nm lm ov pv) {l : Nm} (hm : FMap w' nm φ l) (hw : Wr (fun k => k = nm) w w') : DiskAt w' b F φ { S with names := l } nm lm ov pv where
  lt := fun k hk => Nat.lt_of_lt_of_le (h.lt k hk) hw.size
  own := h.own
  ownN := h.ownN
  ownL := h.ownL
  ne := h.ne
  block := (hw.block b (h.lt b h.own) (h.names.notCells h.block)).trans h.block
  names := hm
  last := h.last.kept hw (fun e => h.ne e.symm)
  files := fun i f hf => by
    obtain ⟨f1, f2⟩ := h.files i f hf
    exact ⟨(hw.block _ (h.lt _ f2) (h.names.notCells f1)).trans f1, f2⟩
  inj := h.inj
  opn := h.opn.kept_by fun k cur hk => hw.block k (Array.getElem?_eq_some_iff.1 hk).1 (h.names.notCells hk)
  plan := h.plan.same hw.size fun k cur fz _ hk => hw.block k (Array.getElem?_eq_some_iff.1 hk).1 (h.names.notCells hk)
theorem DiskAt.apart {w : World} {b : Nat} {F : Nat → Prop} {φ : Nat → Nat} {S : Dk} {nm lm : Nat} {ov pv : Value} (h : DiskAt w b F φ S nm lm ov pv) : ov.ownBlock ≠ some b := by
  intro e
  rcases h.opn.1.2 with ⟨h1, _⟩ | ⟨g, cap, cur, rfl, _, hg, _⟩
  · rw [h1] at e; simp [Value.ownBlock] at e
  · simp [Value.ownBlock] at e
    exact h.notb (by decide) hg e
/-- The open changes have one more: the row has grown, its head is stored. -/
theorem DiskAt.pushed {wq wx w5 : World} {b : Nat} {F : Nat → Prop} {φ : Nat → Nat} {S : Dk} {nm lm : Nat} {ov pv : Value} (h : DiskAt wq b F φ S nm lm ov pv) (c : Ch) {gg cap : Nat}
    (bx : Below wq.heap.size wq wx) (hown : w5.ownsRow 0 72 4 (.slice (some ⟨gg, 0, none⟩) (S.opn.length + 1) cap) (S.opn.length + 1) (S.opn.flatMap (chCells φ) ++ chCells φ c)) (hgrow : wx.grownBy w5 ov.ownBlock) (hat : ov.ownBlock = some gg ∨ wq.heap.size ≤ gg) (hlt : gg < w5.heap.size) :
    DiskAt (w5.setCell ⟨b, 2, none⟩ (.slice (some ⟨gg, 0, none⟩) (S.opn.length + 1) cap)) b (fun k => F k ∨ (wq.heap.size ≤ k ∧ k < w5.heap.size)) φ { S with opn := S.opn ++ [c] } nm lm (.slice (some ⟨gg, 0, none⟩) (S.opn.length + 1) cap) pv ∧
    Wr F wq (w5.setCell ⟨b, 2, none⟩ (.slice (some ⟨gg, 0, none⟩) (S.opn.length + 1) cap)) := by
  have hw5 : Wr F wq w5 := (Wr.of_below bx).grown hgrow (fun k e => .inl (h.opn.2 k e))
  -- what lies in other blocks than the row's
  have hof : ∀ k, k < wq.heap.size → ov.ownBlock ≠ some k → w5.heap[k]? = wq.heap[k]? := fun k hk hne =>
    (hgrow.block k (Nat.lt_of_lt_of_le hk bx.size) (fun e => hne e.symm)).trans (bx.block k hk)
  have hty : ∀ k cur e fz, wq.heap[k]? = some (.cells cur e fz) → e ≠ 72 → ov.ownBlock ≠ some k := fun k cur e fz hk he e2 => by
    rcases h.opn.1.2 with ⟨h1, _⟩ | ⟨g, cap, cur', h1, _, hg, _⟩
    · rw [h1] at e2; simp [Value.ownBlock] at e2
    · rw [h1] at e2; simp [Value.ownBlock] at e2; subst e2; rw [hg] at hk; simp at hk; exact he hk.2.1.symm
  have hmp : ∀ m l, FMap wq m φ l → ov.ownBlock ≠ some m := fun m l hm e2 => by
    rcases h.opn.1.2 with ⟨h1, _⟩ | ⟨g, cap, cur', h1, _, hg, _⟩
    · rw [h1] at e2; simp [Value.ownBlock] at e2
    · rw [h1] at e2; simp [Value.ownBlock] at e2; subst e2; exact hm.notCells hg rfl
  have hblk : w5.heap[b]? = some (.cells #[.map (some nm), .map (some lm), ov, .int .i64 S.steps, pv, .bool S.down] 69 (0, 0)) := (hof b (h.lt b h.own) h.apart).trans h.block
  have hsz := hw5.size
  have set_other : ∀ k, k ≠ b → (w5.setCell ⟨b, 2, none⟩ (.slice (some ⟨gg, 0, none⟩) (S.opn.length + 1) cap)).heap[k]? = w5.heap[k]? := fun k hk => Below.heap_setCell _ _ _ _ hk
  refine ⟨{ lt := fun k hk => ?_, own := .inl h.own, ownN := .inl h.ownN, ownL := .inl h.ownL, ne := h.ne, block := heap_setCell_same hblk, names := ?_, last := ?_, files := ?_, inj := h.inj, opn := ?_, plan := ?_ }, hw5.setCell (p := ⟨b, 2, none⟩) h.own _⟩
  · rw [heap_setCell_size]
    rcases hk with hk | hk
    · have := h.lt k hk; omega
    · exact hk.2
  · exact (h.names.same (hof nm (h.lt _ h.ownN) (hmp _ _ h.names))).same (set_other nm fun e => h.names.notCells h.block e.symm)
  · exact (h.last.same (hof lm (h.lt _ h.ownL) (hmp _ _ h.last))).same (set_other lm fun e => h.last.notCells h.block e.symm)
  · intro i f hf
    obtain ⟨f1, f2⟩ := h.files i f hf
    exact ⟨((set_other _ (h.notb (by decide) f1)).trans (hof _ (h.lt _ f2) (hty _ _ _ _ f1 (by decide)))).trans f1, .inl f2⟩
  · have hr : RowC w5 (fun k => F k ∨ (wq.heap.size ≤ k ∧ k < w5.heap.size)) 72 4 (.slice (some ⟨gg, 0, none⟩) (S.opn.length + 1) cap) (S.opn.length + 1) (S.opn.flatMap (chCells φ) ++ chCells φ c) :=
      ⟨hown, fun g hg => by
        simp [Value.ownBlock] at hg; subst hg
        exact hat.elim (fun e => .inl (h.opn.2 _ e)) (fun e => .inr ⟨e, hlt⟩)⟩
    have hr2 := hr.kept_by (w' := w5.setCell ⟨b, 2, none⟩ (.slice (some ⟨gg, 0, none⟩) (S.opn.length + 1) cap)) fun k cur hk => set_other k fun e => by
      rw [e, hblk] at hk
      simp only [Option.some.injEq, Obj.cells.injEq] at hk
      exact absurd hk.2.1 (by decide)
    simpa using hr2
  · refine (h.plan.same hsz fun k cur fz hF hk => hof k (h.lt k hF) (hty _ _ _ _ hk (by decide))).mono (fun k hk => .inl hk) |>.same (by rw [heap_setCell_size]; exact Nat.le_refl _) fun k cur fz _ hk => set_other k fun e => by
      rw [e, hblk] at hk
      simp only [Option.some.injEq, Obj.cells.injEq] at hk
      exact absurd hk.2.1 (by decide)
def TurnEnd (b : Nat) (F : Nat → Prop) (φ : Nat → Nat) (S : Dk) (c : Ch) (w : World) (e : Ending) (w' : World) : Prop := e = .returned (.tuple #[]) ∧ ∃ F', Disk w' b F' φ (S.turn c) ∧ Grew w F F' ∧ Wr F w w'
set_option maxRecDepth 100000 in
set_option maxHeartbeats 3200000 in
theorem turn_any {w : World} {b N : Nat} {F : Nat → Prop} {φ : Nat → Nat} {S : Dk} (h : Disk w b F φ S) (hg : Pl.Good N S.names) (hN : N ≤ 1099511627776) {c : Ch} (hc : Pl.okc N S.names c) (hs : Pl.ShortC c) (ho : S.opn.length ≤ 1099511627776) :
    Calls Try.prog 49 #[.pointer (some ⟨b, 0, none⟩), .agg (chCells φ c).toArray] w (TurnEnd b F φ S c w) := by
  obtain ⟨nm, lm, ov, pv, h⟩ := h
  obtain ⟨oa, oc, rfl⟩ := h.opn.shape
  obtain ⟨x0, x1, x2, x3, hx, o0, o1, o2, o3⟩ := chCells_four φ c
  have hdo := fun W (hm : FMap W nm φ S.names) => do_any hm hg.ris (Nat.le_trans hg.few hN) hc hs
  rw [hx] at hdo ⊢
  have HDO := Lib.hid hdo
  have HA := Lib.hid (show DiskAt (w.alloc (.cells #[x0, x1, x2, x3] 72)) b F φ S nm lm (.slice oa S.opn.length oc) pv ∧ Wr F w (w.alloc (.cells #[x0, x1, x2, x3] 72)) ∧ BlkC (w.alloc (.cells #[x0, x1, x2, x3] 72)) w.heap.size x0 x1 x2 x3 from ⟨h.alloc _, (Wr.refl _ _).alloc _, BlkC.new rfl⟩)
  have HnF := Lib.hid (show ¬ F w.heap.size from fun hk => Nat.lt_irrefl _ (h.lt _ hk))
  clear h hdo
  show Calls Try.prog 49 #[.pointer (some ⟨b, 0, none⟩), .agg #[x0, x1, x2, x3]] w _
  go_enter Try.func49, Try.ntmps49
  go_wp2_with fail
  generalize w.alloc (.cells #[x0, x1, x2, x3] 72) = wq at HA ⊢
  obtain ⟨c0, -, -, -, -, -⟩ := HA.out.1.cells
  obtain ⟨k0, k1, k2, k3⟩ := HA.out.2.2.cells
  go_still_tail 5, (by kernel_rfl)
  go_wp2_with fail
  (refine (HDO.out wq.drew (HA.out.1.below (Below.refl _ _).drew).names).mono ?_; rintro e wd ⟨rfl, m1, r1⟩)
  have HB := Lib.hid (show DiskAt wd b F φ { S with names := Pl.change S.names c } nm lm (.slice oa S.opn.length oc) pv ∧ Wr F w wd ∧ BlkC wd w.heap.size x0 x1 x2 x3 from by
    have hd := HA.out.1.below (Below.refl _ _).drew
    refine ⟨hd.updN m1 r1, HA.out.2.1.trans ((Wr.of_below (Below.refl _ _).drew).trans (r1.mono fun k hk _ => hk ▸ hd.ownN) (Grew.refl _ _)) (Grew.refl _ _), HA.out.2.2.kept (r1.block _ HA.out.2.2.lt fun e => HnF.out (e ▸ hd.ownN))⟩)
  clear m1 r1 c0 k0 k1 k2 k3
  obtain ⟨-, -, c2, -, -, -⟩ := HB.out.1.cells
  have f2 := HB.out.1.free 2
  obtain ⟨k0, k1, k2, k3⟩ := HB.out.2.2.cells
  have hq := HB.out.1.opn.1
  have hap := HB.out.1.apart
  have hblt := HB.out.1.lt b HB.out.1.own
  have HF3 := Lib.hid HB.out.2.2.lt
  have h63 : S.opn.length + 1 ≤ maxLen := by unfold maxLen; omega
  have hby : (S.opn.length + 1) * 48 ≤ 140737488355328 := by omega
  obtain ⟨i0, hi, hz0, hz1, hz2⟩ := info_parts infoChange
  have ax : ∀ o, (wd.alloc o).cell? ⟨b, 2, none⟩ = some (.slice oa S.opn.length oc) := fun o => (((Below.refl _ _).alloc (Nat.le_refl _) o).cell (p := ⟨b, 2, none⟩) hblt).trans c2
  have zx : ∀ o, (wd.alloc o).frozen? ⟨b, 2, none⟩ = false := fun o => (((Below.refl _ _).alloc (Nat.le_refl _) o).frozen (p := ⟨b, 2, none⟩) hblt).trans f2
  go_wp2_with fail
  go_region_law
    (refine step_append_lies _ (by rfl) _ _ _ (by rfl) 0 72 i0 _ 4 48 Try.underlying67 hi hz0 hz1 hz2 rfl (by omega) (.slice oa S.opn.length oc) S.opn.length _ (by rfl) (hq.alloc _)
          ⟨wd.heap.size, 0, none⟩ 1 1 [x0, x1, x2, x3] (by rfl) (by rfl) (World.news_of_block (cs := #[x0, x1, x2, x3]) (t := 72) (fr := (0, 0)) (heap_alloc_new wd _)) (by simp [o0, o1, o2, o3])
          (by omega) h63 hby (Nat.zero_le _) _ rfl ?_
     intro gg cap w5 hown5 hgrow hat hlt5
     have cy : w5.cell? ⟨b, 2, none⟩ = some (.slice oa S.opn.length oc) := by rw [hgrow.cell_far ⟨b, 2, none⟩ (by simp; omega) (Ne.symm hap)]; exact ax _
     have fy : w5.frozen? ⟨b, 2, none⟩ = false := by rw [hgrow.frozen_far ⟨b, 2, none⟩ (by simp; omega) (Ne.symm hap)]; exact zx _)
  all_goals
    go_wp2
    go_end0
    have P := DiskAt.pushed HB.out.1 c (by first | exact (Below.refl _ _).alloc (Nat.le_refl _) _ | exact ((Below.refl _ _).drew).alloc (Nat.le_refl _) _) (by rw [hx]; exact hown5) hgrow (hat.imp id (fun e => by rw [e]; first | exact Nat.le_refl _ | (show wd.heap.size ≤ (wd.alloc _).heap.size; simp))) hlt5
    exact ⟨rfl, _, P.1.disk, fun k hk => hk.imp id (fun h2 => by have := HB.out.2.1.size; omega), HB.out.2.1.trans P.2 (Grew.refl _ _)⟩
end Go.Proofs.Ytbjlffhnkcbnmaa
