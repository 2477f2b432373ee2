/- The disk of the program: a change of names. The disk of the program: what is done with a name. The disk of the program: bytes laid, cut off, made to last. -/
import Derived.Test.YtfbjmhipjfjaeaaGreatDoorM02
import Derived.Deep.AppendLies
import Derived.StillTailTactics
import Derived.Deep.RegionLaw
import Derived.RegionTactic
namespace Go.Proofs.YtfbjmhipjfjaeaaGreatDoor
open Go.ChangeShapes Go.WideShapes Go.ChangeAt Go.RowKit Go.Maps
open Pl (Tx Fl Ch Nm Dk)
set_option linter.unusedVariables false

theorem chCells_four (φ : Nat → Nat) (c : Ch) : ∃ x0 x1 x2 x3, chCells φ c = [x0, x1, x2, x3] ∧ x0.oneCell' = true ∧ x1.oneCell' = true ∧ x2.oneCell' = true ∧ x3.oneCell' = true := by
  unfold chCells
  split
  · exact ⟨_, _, _, _, rfl, rfl, rfl, rfl, rfl⟩
  · exact ⟨_, _, _, _, rfl, rfl, rfl, rfl, rfl⟩
theorem infoChange : (Tryz.prog.info? 103).map (fun i => (i.zero, i.size, i.bytes)) = some (some (.agg #[.bool false, .string ⟨#[]⟩, .string ⟨#[]⟩, .pointer none]), 4, 48) := by kernel_rfl
/-- A block of four cells: a change. -/
def BlkC (w : World) (g : Nat) (a b c d : Value) : Prop := w.heap[g]? = some (.cells #[a, b, c, d] 103 (0, 0))
namespace BlkC
variable {w w' : World} {g : Nat} {a b c d : Value}
theorem cells (h : BlkC w g a b c d) : w.cell? ⟨g, 0, none⟩ = some a ∧ w.cell? ⟨g, 1, none⟩ = some b ∧ w.cell? ⟨g, 2, none⟩ = some c ∧ w.cell? ⟨g, 3, none⟩ = some d := by
  unfold BlkC at h
  simp [World.cell?, h]
theorem kept (h : BlkC w g a b c d) (hb : w'.heap[g]? = w.heap[g]?) : BlkC w' g a b c d := hb.trans h
theorem lt (h : BlkC w g a b c d) : g < w.heap.size := (Array.getElem?_eq_some_iff.1 h).1
theorem later (h : BlkC w g a b c d) (hb : Below w.heap.size w w') : BlkC w' g a b c d := h.kept (hb.block g h.lt)
theorem new (h : g = w.heap.size) : BlkC (w.alloc (.cells #[a, b, c, d] 103)) g a b c d := by subst h; exact heap_alloc_new w _
theorem alloc (h : BlkC w g a b c d) (o : Obj) : BlkC (w.alloc o) g a b c d := (heap_alloc_old w o h.lt).trans h
end BlkC
/-- The map of names alone is written. -/
theorem DiskAt.updN {w w' : World} {b : Nat} {F : Nat → Prop} {φ : Nat → Nat} {S : Dk} {nm lm : Nat} {ov pv : Value} (h : DiskAt w b F φ S nm lm ov pv) {l : Nm} (hm : FMap w' nm φ l) (hw : Wr (fun k => k = nm) w w') : DiskAt w' b F φ { S with names := l } nm lm ov pv where
  lt := fun k hk => Nat.lt_of_lt_of_le (h.lt k hk) hw.size
  own := h.own
  ownN := h.ownN
  ownL := h.ownL
  ne := h.ne
  block := (hw.block b (h.lt b h.own) (h.names.notCells h.block)).trans h.block
  names := hm
  last := h.last.kept hw (fun e => h.ne e.symm)
  files := fun i f hf => by
    obtain ⟨f1, f2⟩ := h.files i f hf
    exact ⟨(hw.block _ (h.lt _ f2) (h.names.notCells f1)).trans f1, f2⟩
  inj := h.inj
  opn := h.opn.kept_by fun k cur hk => hw.block k (Array.getElem?_eq_some_iff.1 hk).1 (h.names.notCells hk)
  plan := h.plan.same hw.size fun k cur fz _ hk => hw.block k (Array.getElem?_eq_some_iff.1 hk).1 (h.names.notCells hk)
theorem DiskAt.apart {w : World} {b : Nat} {F : Nat → Prop} {φ : Nat → Nat} {S : Dk} {nm lm : Nat} {ov pv : Value} (h : DiskAt w b F φ S nm lm ov pv) : ov.ownBlock ≠ some b := by
  intro e
  rcases h.opn.1.2 with ⟨h1, _⟩ | ⟨g, cap, cur, rfl, _, hg, _⟩
  · rw [h1] at e; simp [Value.ownBlock] at e
  · simp [Value.ownBlock] at e
    exact h.notb (by decide) hg e
/-- The open changes have one more: the row has grown, its head is stored. -/
theorem DiskAt.pushed {wq wx w5 : World} {b : Nat} {F : Nat → Prop} {φ : Nat → Nat} {S : Dk} {nm lm : Nat} {ov pv : Value} (h : DiskAt wq b F φ S nm lm ov pv) (c : Ch) {gg cap : Nat}
    (bx : Below wq.heap.size wq wx) (hown : w5.ownsRow 0 103 4 (.slice (some ⟨gg, 0, none⟩) (S.opn.length + 1) cap) (S.opn.length + 1) (S.opn.flatMap (chCells φ) ++ chCells φ c)) (hgrow : wx.grownBy w5 ov.ownBlock) (hat : ov.ownBlock = some gg ∨ wq.heap.size ≤ gg) (hlt : gg < w5.heap.size) :
    DiskAt (w5.setCell ⟨b, 2, none⟩ (.slice (some ⟨gg, 0, none⟩) (S.opn.length + 1) cap)) b (fun k => F k ∨ (wq.heap.size ≤ k ∧ k < w5.heap.size)) φ { S with opn := S.opn ++ [c] } nm lm (.slice (some ⟨gg, 0, none⟩) (S.opn.length + 1) cap) pv ∧
    Wr F wq (w5.setCell ⟨b, 2, none⟩ (.slice (some ⟨gg, 0, none⟩) (S.opn.length + 1) cap)) := by
  have hw5 : Wr F wq w5 := (Wr.of_below bx).grown hgrow (fun k e => .inl (h.opn.2 k e))
  -- what lies in other blocks than the row's
  have hof : ∀ k, k < wq.heap.size → ov.ownBlock ≠ some k → w5.heap[k]? = wq.heap[k]? := fun k hk hne =>
    (hgrow.block k (Nat.lt_of_lt_of_le hk bx.size) (fun e => hne e.symm)).trans (bx.block k hk)
  have hty : ∀ k cur e fz, wq.heap[k]? = some (.cells cur e fz) → e ≠ 103 → ov.ownBlock ≠ some k := fun k cur e fz hk he e2 => by
    rcases h.opn.1.2 with ⟨h1, _⟩ | ⟨g, cap, cur', h1, _, hg, _⟩
    · rw [h1] at e2; simp [Value.ownBlock] at e2
    · rw [h1] at e2; simp [Value.ownBlock] at e2; subst e2; rw [hg] at hk; simp at hk; exact he hk.2.1.symm
  have hmp : ∀ m l, FMap wq m φ l → ov.ownBlock ≠ some m := fun m l hm e2 => by
    rcases h.opn.1.2 with ⟨h1, _⟩ | ⟨g, cap, cur', h1, _, hg, _⟩
    · rw [h1] at e2; simp [Value.ownBlock] at e2
    · rw [h1] at e2; simp [Value.ownBlock] at e2; subst e2; exact hm.notCells hg rfl
  have hblk : w5.heap[b]? = some (.cells #[.map (some nm), .map (some lm), ov, .int .i64 S.steps, pv, .bool S.down] 91 (0, 0)) := (hof b (h.lt b h.own) h.apart).trans h.block
  have hsz := hw5.size
  have set_other : ∀ k, k ≠ b → (w5.setCell ⟨b, 2, none⟩ (.slice (some ⟨gg, 0, none⟩) (S.opn.length + 1) cap)).heap[k]? = w5.heap[k]? := fun k hk => Below.heap_setCell _ _ _ _ hk
  refine ⟨{ lt := fun k hk => ?_, own := .inl h.own, ownN := .inl h.ownN, ownL := .inl h.ownL, ne := h.ne, block := heap_setCell_same hblk, names := ?_, last := ?_, files := ?_, inj := h.inj, opn := ?_, plan := ?_ }, hw5.setCell (p := ⟨b, 2, none⟩) h.own _⟩
  · rw [heap_setCell_size]
    rcases hk with hk | hk
    · have := h.lt k hk; omega
    · exact hk.2
  · exact (h.names.same (hof nm (h.lt _ h.ownN) (hmp _ _ h.names))).same (set_other nm fun e => h.names.notCells h.block e.symm)
  · exact (h.last.same (hof lm (h.lt _ h.ownL) (hmp _ _ h.last))).same (set_other lm fun e => h.last.notCells h.block e.symm)
  · intro i f hf
    obtain ⟨f1, f2⟩ := h.files i f hf
    exact ⟨((set_other _ (h.notb (by decide) f1)).trans (hof _ (h.lt _ f2) (hty _ _ _ _ f1 (by decide)))).trans f1, .inl f2⟩
  · have hr : RowC w5 (fun k => F k ∨ (wq.heap.size ≤ k ∧ k < w5.heap.size)) 103 4 (.slice (some ⟨gg, 0, none⟩) (S.opn.length + 1) cap) (S.opn.length + 1) (S.opn.flatMap (chCells φ) ++ chCells φ c) :=
      ⟨hown, fun g hg => by
        simp [Value.ownBlock] at hg; subst hg
        exact hat.elim (fun e => .inl (h.opn.2 _ e)) (fun e => .inr ⟨e, hlt⟩)⟩
    have hr2 := hr.kept_by (w' := w5.setCell ⟨b, 2, none⟩ (.slice (some ⟨gg, 0, none⟩) (S.opn.length + 1) cap)) fun k cur hk => set_other k fun e => by
      rw [e, hblk] at hk
      simp only [Option.some.injEq, Obj.cells.injEq] at hk
      exact absurd hk.2.1 (by decide)
    simpa using hr2
  · refine (h.plan.same hsz fun k cur fz hF hk => hof k (h.lt k hF) (hty _ _ _ _ hk (by decide))).mono (fun k hk => .inl hk) |>.same (by rw [heap_setCell_size]; exact Nat.le_refl _) fun k cur fz _ hk => set_other k fun e => by
      rw [e, hblk] at hk
      simp only [Option.some.injEq, Obj.cells.injEq] at hk
      exact absurd hk.2.1 (by decide)
def TurnEnd (b : Nat) (F : Nat → Prop) (φ : Nat → Nat) (S : Dk) (c : Ch) (w : World) (e : Ending) (w' : World) : Prop := e = .returned (.tuple #[]) ∧ ∃ F', Disk w' b F' φ (S.turn c) ∧ Grew w F F' ∧ Wr F w w'
set_option maxRecDepth 100000 in
set_option maxHeartbeats 3200000 in
theorem turn_any {w : World} {b N : Nat} {F : Nat → Prop} {φ : Nat → Nat} {S : Dk} (h : Disk w b F φ S) (hg : Pl.Good N S.names) (hN : N ≤ 1099511627776) {c : Ch} (hc : Pl.okc N S.names c) (hs : Pl.ShortC c) (ho : S.opn.length ≤ 1099511627776) :
    Calls Tryz.prog 59 #[.pointer (some ⟨b, 0, none⟩), .agg (chCells φ c).toArray] w (TurnEnd b F φ S c w) := by
  obtain ⟨nm, lm, ov, pv, h⟩ := h
  obtain ⟨oa, oc, rfl⟩ := h.opn.shape
  obtain ⟨x0, x1, x2, x3, hx, o0, o1, o2, o3⟩ := chCells_four φ c
  have hdo := fun W (hm : FMap W nm φ S.names) => do_any hm hg.ris (Nat.le_trans hg.few hN) hc hs
  rw [hx] at hdo ⊢
  have HDO := Lib.hid hdo
  have HA := Lib.hid (show DiskAt (w.alloc (.cells #[x0, x1, x2, x3] 103)) b F φ S nm lm (.slice oa S.opn.length oc) pv ∧ Wr F w (w.alloc (.cells #[x0, x1, x2, x3] 103)) ∧ BlkC (w.alloc (.cells #[x0, x1, x2, x3] 103)) w.heap.size x0 x1 x2 x3 from ⟨h.alloc _, (Wr.refl _ _).alloc _, BlkC.new rfl⟩)
  have HnF := Lib.hid (show ¬ F w.heap.size from fun hk => Nat.lt_irrefl _ (h.lt _ hk))
  clear h hdo
  show Calls Tryz.prog 59 #[.pointer (some ⟨b, 0, none⟩), .agg #[x0, x1, x2, x3]] w _
  go_enter Tryz.func59, Tryz.ntmps59
  go_wp2_with fail
  generalize w.alloc (.cells #[x0, x1, x2, x3] 103) = wq at HA ⊢
  obtain ⟨c0, -, -, -, -, -⟩ := HA.out.1.cells
  obtain ⟨k0, k1, k2, k3⟩ := HA.out.2.2.cells
  go_still_tail 5, (by kernel_rfl)
  go_wp2_with fail
  (refine (HDO.out wq.drew (HA.out.1.below (Below.refl _ _).drew).names).mono ?_; rintro e wd ⟨rfl, m1, r1⟩)
  have HB := Lib.hid (show DiskAt wd b F φ { S with names := Pl.change S.names c } nm lm (.slice oa S.opn.length oc) pv ∧ Wr F w wd ∧ BlkC wd w.heap.size x0 x1 x2 x3 from by
    have hd := HA.out.1.below (Below.refl _ _).drew
    refine ⟨hd.updN m1 r1, HA.out.2.1.trans ((Wr.of_below (Below.refl _ _).drew).trans (r1.mono fun k hk _ => hk ▸ hd.ownN) (Grew.refl _ _)) (Grew.refl _ _), HA.out.2.2.kept (r1.block _ HA.out.2.2.lt fun e => HnF.out (e ▸ hd.ownN))⟩)
  clear m1 r1 c0 k0 k1 k2 k3
  obtain ⟨-, -, c2, -, -, -⟩ := HB.out.1.cells
  have f2 := HB.out.1.free 2
  obtain ⟨k0, k1, k2, k3⟩ := HB.out.2.2.cells
  have hq := HB.out.1.opn.1
  have hap := HB.out.1.apart
  have hblt := HB.out.1.lt b HB.out.1.own
  have HF3 := Lib.hid HB.out.2.2.lt
  have h63 : S.opn.length + 1 ≤ maxLen := by unfold maxLen; omega
  have hby : (S.opn.length + 1) * 48 ≤ 140737488355328 := by omega
  obtain ⟨i0, hi, hz0, hz1, hz2⟩ := info_parts infoChange
  have ax : ∀ o, (wd.alloc o).cell? ⟨b, 2, none⟩ = some (.slice oa S.opn.length oc) := fun o => (((Below.refl _ _).alloc (Nat.le_refl _) o).cell (p := ⟨b, 2, none⟩) hblt).trans c2
  have zx : ∀ o, (wd.alloc o).frozen? ⟨b, 2, none⟩ = false := fun o => (((Below.refl _ _).alloc (Nat.le_refl _) o).frozen (p := ⟨b, 2, none⟩) hblt).trans f2
  go_wp2_with fail
  go_region_law
    (refine step_append_lies _ (by rfl) _ _ _ (by rfl) 0 103 i0 _ 4 48 Tryz.underlying89 hi hz0 hz1 hz2 rfl (by omega) (.slice oa S.opn.length oc) S.opn.length _ (by rfl) (hq.alloc _)
          ⟨wd.heap.size, 0, none⟩ 1 1 [x0, x1, x2, x3] (by rfl) (by rfl) (World.news_of_block (cs := #[x0, x1, x2, x3]) (t := 103) (fr := (0, 0)) (heap_alloc_new wd _)) (by simp [o0, o1, o2, o3])
          (by omega) h63 hby (Nat.zero_le _) _ rfl ?_
     intro gg cap w5 hown5 hgrow hat hlt5
     have cy : w5.cell? ⟨b, 2, none⟩ = some (.slice oa S.opn.length oc) := by rw [hgrow.cell_far ⟨b, 2, none⟩ (by simp; omega) (Ne.symm hap)]; exact ax _
     have fy : w5.frozen? ⟨b, 2, none⟩ = false := by rw [hgrow.frozen_far ⟨b, 2, none⟩ (by simp; omega) (Ne.symm hap)]; exact zx _)
  all_goals
    go_wp2
    go_end0
    have P := DiskAt.pushed HB.out.1 c (by first | exact (Below.refl _ _).alloc (Nat.le_refl _) _ | exact ((Below.refl _ _).drew).alloc (Nat.le_refl _) _) (by rw [hx]; exact hown5) hgrow (hat.imp id (fun e => by rw [e]; first | exact Nat.le_refl _ | (show wd.heap.size ≤ (wd.alloc _).heap.size; simp))) hlt5
    exact ⟨rfl, _, P.1.disk, fun k hk => hk.imp id (fun h2 => by have := HB.out.2.1.size; omega), HB.out.2.1.trans P.2 (Grew.refl _ _)⟩
end Go.Proofs.YtfbjmhipjfjaeaaGreatDoor

namespace Go.Proofs.YtfbjmhipjfjaeaaGreatDoor
open Go.ChangeShapes Go.WideShapes Go.ChangeAt Go.RowKit Go.Maps
open Pl (Tx Fl Ch Nm Dk)
set_option linter.unusedVariables false

/-- The program's disk stands, wherever its files lie. -/
def Dsk (w : World) (b : Nat) (F : Nat → Prop) (S : Dk) : Prop := ∃ φ, Disk w b F φ S
/-- What a call leaves. -/
def Leaves (b : Nat) (F : Nat → Prop) (T : Dk) (w w' : World) : Prop := ∃ F', Dsk w' b F' T ∧ Grew w F F' ∧ Wr F w w'
def OpEnd (b : Nat) (F : Nat → Prop) (T : Dk) (v : Value) (w : World) (e : Ending) (w' : World) : Prop := e = .returned v ∧ Leaves b F T w w'
theorem Leaves.same {b : Nat} {F : Nat → Prop} {φ : Nat → Nat} {T : Dk} {w w' : World} (h : Disk w' b F φ T) (hw : Wr F w w') : Leaves b F T w w' := ⟨F, ⟨φ, h⟩, Grew.refl _ _, hw⟩
/-- A new file was laid. -/
theorem DiskAt.newFile {w : World} {b : Nat} {F : Nat → Prop} {φ : Nat → Nat} {S : Dk} {nm lm : Nat} {ov pv : Value} (h : DiskAt w b F φ S nm lm ov pv) (hI : S.Inv) :
    DiskAt (w.alloc (.cells #[.string ⟨#[]⟩, .int .i64 0] 101)) b (fun k => F k ∨ k = w.heap.size) (fun i => if i = S.files.length then w.heap.size else φ i) { S with files := S.files ++ [⟨[], 0⟩] } nm lm ov pv := by
  have h' := h.alloc (.cells #[.string ⟨#[]⟩, .int .i64 0] 101)
  have hφ : ∀ i, i < S.files.length → (if i = S.files.length then w.heap.size else φ i) = φ i := fun i hi => if_neg (by omega)
  have hop : S.opn.flatMap (chCells (fun i => if i = S.files.length then w.heap.size else φ i)) = S.opn.flatMap (chCells φ) := by
    simp only [List.flatMap]
    congr 1
    refine List.map_congr_left fun c hc => ?_
    unfold chCells
    split
    next hk => dsimp only; rw [hφ _ (hI.snd.files c hc hk)]
    · rfl
  refine { lt := fun k hk => ?_, own := .inl h.own, ownN := .inl h.ownN, ownL := .inl h.ownL, ne := h.ne, block := h'.block, names := h'.names.turn fun p hp => hφ _ (hI.good.lt p hp), last := h'.last.turn fun p hp => hφ _ (hI.last.lt p hp), files := ?_, inj := ?_, opn := ?_, plan := h'.plan.mono fun k hk => .inl hk }
  · rcases hk with hk | rfl
    · exact h'.lt k hk
    · simp
  · intro i f hf
    by_cases hi : i = S.files.length
    · subst hi
      simp at hf
      subst hf
      refine ⟨?_, .inr (if_pos rfl)⟩
      rw [if_pos rfl]
      exact heap_alloc_new w _
    · have hi2 : i < S.files.length := by
        have := (List.getElem?_eq_some_iff.1 hf).1
        simp at this; omega
      rw [List.getElem?_append_left hi2] at hf
      obtain ⟨f1, f2⟩ := h'.files i f hf
      rw [if_neg hi]
      exact ⟨f1, .inl f2⟩
  · intro i j hi hj e
    simp at hi hj
    have hlt : ∀ k, k < S.files.length → φ k < w.heap.size := fun k hk => by
      obtain ⟨f1, f2⟩ := h.files k _ (List.getElem?_eq_getElem hk)
      exact h.lt _ f2
    by_cases h1 : i = S.files.length <;> by_cases h2 : j = S.files.length
    · omega
    · simp only [h1, if_true, if_neg h2] at e
      have := hlt j (by omega); omega
    · simp only [h2, if_true, if_neg h1] at e
      have := hlt i (by omega); omega
    · simp only [if_neg h1, if_neg h2] at e
      exact h.inj i j (by omega) (by omega) e
  · have := h'.opn.mono (G := fun k => F k ∨ k = w.heap.size) fun k hk => .inl hk
    rw [hop]; exact this
set_option maxRecDepth 100000 in
set_option maxHeartbeats 1600000 in
theorem create_any {w : World} {b j : Nat} {F : Nat → Prop} {S : Dk} (h : Dsk w b F S) (hI : S.Inv) (hS : S.Small j) (hj : j ≤ 4194304) (n : Tx) (hn : n.length ≤ 33554432) :
    Calls Tryz.prog 21 #[.pointer (some ⟨b, 0, none⟩), .string (str n)] w (OpEnd b F (S.createS n) (.int .i64 (S.createE n)) w) := by
  obtain ⟨φ, h⟩ := h
  have HFi := find_any h n hn
  unfold FoundEnd at HFi
  have H := Lib.hid h
  have HSt := Lib.hid (step_any h (by have := hS.steps; omega) hS.plan)
  clear h
  by_cases h0 : S.askE n = 0
  · rw [if_pos h0, h0] at HFi
    replace HFi := Lib.hid HFi
    have HR := Lib.hid (show S.createE n = 51 ∧ S.createS n = S from ⟨by unfold Dk.createE; rw [if_pos h0], by unfold Dk.createS; rw [if_pos (by omega)]⟩)
    clear h0
    go_enter Tryz.func21, Tryz.ntmps21
    go_wp2_with fail
    ((with_reducible refine HFi.out.mono ?_); rintro e w1 ⟨rfl, rfl⟩)
    go_wp2
    go_ret
    exact ⟨by rw [HR.out.1]; rfl, by rw [HR.out.2]; exact Leaves.same H.out (Wr.refl _ _)⟩
  by_cases h5 : S.askE n = 50
  · rw [if_neg h0, h5] at HFi
    replace HFi := Lib.hid HFi
    obtain ⟨v0, hv0⟩ : ∃ v, hitV S = v := ⟨_, rfl⟩
    unfold StepEnd at HSt
    rw [hv0] at HSt
    by_cases hf : S.faultE = 0
    · rw [hf] at HSt
      have HR := Lib.hid (show S.createE n = 0 ∧ S.createS n = Dk.turn { S.faultS with files := S.files ++ [⟨[], 0⟩] } ⟨1, n, [], S.files.length⟩ from ⟨by unfold Dk.createE; rw [if_neg (by omega), if_neg (by omega), hf], by unfold Dk.createS; rw [if_neg (by omega), if_neg (by omega)]⟩)
      have HN := Lib.hid (Pl.askE_new h5)
      clear h0 h5 hf hv0
      go_enter Tryz.func21, Tryz.ntmps21
      go_wp2_with fail
      ((with_reducible refine HFi.out.mono ?_); rintro e w1 ⟨rfl, rfl⟩)
      go_wp2_with fail
      ((with_reducible refine HSt.out.mono ?_); rintro e w2 ⟨rfl, d2, r2⟩)
      have HD2 := Lib.hid (And.intro d2 r2)
      obtain ⟨nm, lm, ov, pv, d3⟩ := d2
      have HD3 := Lib.hid (d3.newFile hI.fault)
      have hT := turn_any HD3.out.disk (N := S.files.length + 1) (c := ⟨1, n, [], S.files.length⟩) (by
        have := hI.good
        exact ⟨this.ris, this.inj, fun p hp => by have := this.lt p hp; omega⟩) (by have := hS.files; omega) (.inl ⟨rfl, by simp, HN.out.2.1, fun hm => by
        obtain ⟨p, hp, e⟩ := List.mem_map.1 hm
        have := hI.good.lt p hp
        simp only at e; omega⟩) ⟨hn, by simp⟩ (by have := hS.opn; show S.opn.length ≤ _; omega)
      rw [show (chCells (fun i => if i = S.faultS.files.length then w2.heap.size else φ i) ⟨1, n, [], S.files.length⟩) = [.bool true, .string ⟨#[]⟩, .string (str n), .pointer (some ⟨w2.heap.size, 0, none⟩)] by
        unfold chCells; rw [if_pos rfl]; dsimp only; rw [if_pos (show S.files.length = S.faultS.files.length from rfl)]; rfl] at hT
      replace hT : Calls Tryz.prog 59 #[.pointer (some ⟨b, 0, none⟩), .agg #[.bool true, .string ⟨#[]⟩, .string (str n), .pointer (some ⟨w2.heap.size, 0, none⟩)]] _ _ := hT
      have HT := Lib.hid hT
      clear r2 d3 hT
      go_wp2_with fail
      (refine HT.out.mono ?_; rintro e w4 ⟨rfl, F', d4, g4, r4⟩)
      have H4 := Lib.hid (show Leaves b F (S.createS n) w w4 from by
        rw [HR.out.2]
        refine ⟨F', ⟨_, d4⟩, fun k hk => ?_, ?_⟩
        · have := HD2.out.2.size
          rcases g4 k hk with (h1 | h1) | h1
          · exact .inl h1
          · exact .inr (by omega)
          · simp at h1; exact .inr (by omega)
        · refine HD2.out.2.trans (((Wr.refl F w2).alloc _).trans r4 fun k hk => hk.imp id (fun e => by rw [e]; exact Nat.le_refl _)) (Grew.refl _ _))
      clear d4 g4 r4
      go_wp2
      go_ret
      exact ⟨by rw [HR.out.1]; rfl, H4.out⟩
    · obtain ⟨fe, hfe⟩ : ∃ fe, S.faultE = fe := ⟨_, rfl⟩
      rw [hfe] at hf HSt
      have HR := Lib.hid (show S.createE n = fe ∧ S.createS n = S.faultS from ⟨by unfold Dk.createE; rw [if_neg (by omega), if_neg (by omega), hfe], by unfold Dk.createS; rw [if_neg (by omega), if_pos (by omega)]⟩)
      have b1 : ((fe : Int) == 0) = false := by rw [beq_eq_false_iff_ne]; omega
      clear h0 h5 hf hv0 hfe
      go_enter Tryz.func21, Tryz.ntmps21
      go_wp2_with fail
      ((with_reducible refine HFi.out.mono ?_); rintro e w1 ⟨rfl, rfl⟩)
      go_wp2_with fail
      ((with_reducible refine HSt.out.mono ?_); rintro e w2 ⟨rfl, d2, r2⟩)
      have HD2 := Lib.hid (And.intro d2 r2)
      clear d2 r2
      go_wp2
      go_ret
      exact ⟨by rw [HR.out.1]; rfl, by rw [HR.out.2]; exact Leaves.same HD2.out.1 HD2.out.2⟩
  · rw [if_neg h0] at HFi
    obtain ⟨k, hk⟩ : ∃ k, S.askE n = k := ⟨_, rfl⟩
    rw [hk] at HFi h0 h5
    replace HFi := Lib.hid HFi
    have HR := Lib.hid (show S.createE n = k ∧ S.createS n = S from ⟨by unfold Dk.createE; rw [if_neg (by omega), if_pos (by omega), hk], by unfold Dk.createS; rw [if_pos (by omega)]⟩)
    have b1 : ((k : Int) == 0) = false := by rw [beq_eq_false_iff_ne]; omega
    have b2 : ((k : Int) == 50) = false := by rw [beq_eq_false_iff_ne]; omega
    clear h0 h5 hk
    go_enter Tryz.func21, Tryz.ntmps21
    go_wp2_with fail
    ((with_reducible refine HFi.out.mono ?_); rintro e w1 ⟨rfl, rfl⟩)
    go_wp2
    go_ret
    exact ⟨by rw [HR.out.1]; rfl, by rw [HR.out.2]; exact Leaves.same H.out (Wr.refl _ _)⟩
end Go.Proofs.YtfbjmhipjfjaeaaGreatDoor

namespace Go.Proofs.YtfbjmhipjfjaeaaGreatDoor
open Go.ChangeShapes Go.WideShapes Go.ChangeAt Go.RowKit Go.Maps
open Pl (Tx Fl Ch Nm Dk)
set_option linter.unusedVariables false

theorem str_append (a b : Tx) : str a ++ str b = str (a ++ b) := by
  apply ByteArray.ext
  apply Array.ext'
  simp [str]
theorem str_take (a : Tx) (n : Nat) (h : n ≤ a.length) : (str a).extract 0 n = str (a.take n) := by
  apply ByteArray.ext
  apply Array.ext'
  simp [str]
/-- The file that a name leads to. -/
theorem DiskAt.fileAt {w : World} {b : Nat} {F : Nat → Prop} {φ : Nat → Nat} {S : Dk} {nm lm : Nat} {ov pv : Value} (h : DiskAt w b F φ S nm lm ov pv) (hI : S.Inv) {n : Tx} (ha : S.askE n = 0) :
    ∃ f, S.files[S.fileOf n]? = some f ∧ w.heap[φ (S.fileOf n)]? = some (.cells #[strV f.text, .int .i64 f.sync] 101 (0, 0)) ∧ F (φ (S.fileOf n)) := by
  have hl := hI.fileLt ha
  obtain ⟨h1, h2⟩ := h.files _ _ (List.getElem?_eq_getElem hl)
  exact ⟨_, List.getElem?_eq_getElem hl, h1, h2⟩
/-- One cell of a file is written. -/
theorem Disk.setFile {w : World} {b : Nat} {F : Nat → Prop} {φ : Nat → Nat} {S : Dk} (h : Disk w b F φ S) {i : Nat} {f : Fl} (hf : S.files[i]? = some f) {k : Nat} {v : Value} (g : Fl → Fl)
    (hg : (#[strV f.text, .int .i64 f.sync] : Array Value).setIfInBounds k v = #[strV (g f).text, .int .i64 (g f).sync]) : Disk (w.setCell ⟨φ i, k, none⟩ v) b F φ (S.setF i g) ∧ Wr F w (w.setCell ⟨φ i, k, none⟩ v) := by
  obtain ⟨nm, lm, ov, pv, h⟩ := h
  obtain ⟨h1, h2⟩ := h.files i f hf
  refine ⟨DiskAt.disk (h.updF hf g ?_ (fun j hj => Below.heap_setCell _ _ _ _ hj) (heap_setCell_size _ _ _)), (Wr.refl F w).setCell (p := ⟨φ i, k, none⟩) h2 _⟩
  rw [heap_setCell_same h1, hg]
theorem Disk.fileAt {w : World} {b : Nat} {F : Nat → Prop} {φ : Nat → Nat} {S : Dk} (h : Disk w b F φ S) {i : Nat} {f : Fl} (hf : S.files[i]? = some f) :
    w.cell? ⟨φ i, 0, none⟩ = some (strV f.text) ∧ w.cell? ⟨φ i, 1, none⟩ = some (.int .i64 f.sync) ∧ (∀ k, w.frozen? ⟨φ i, k, none⟩ = false) ∧ φ i < w.heap.size ∧ F (φ i) := by
  obtain ⟨nm, lm, ov, pv, h⟩ := h
  obtain ⟨h1, h2⟩ := h.files i f hf
  refine ⟨by simp [World.cell?, h1], by simp [World.cell?, h1], fun k => by simp only [World.frozen?, h1]; simp, h.lt _ h2, h2⟩
/-- A reading: the bytes, or the error. -/
def ReadEnd (S : Dk) (n : Tx) (w : World) (e : Ending) (w' : World) : Prop := e = .returned (.tuple #[.string (str (S.readT n)), .int .i64 (S.askE n)]) ∧ w = w'
def SyncedEnd (S : Dk) (n : Tx) (w : World) (e : Ending) (w' : World) : Prop := e = .returned (.tuple #[.int .i64 (S.readN n), .int .i64 (S.askE n)]) ∧ w = w'
set_option maxRecDepth 100000 in
set_option maxHeartbeats 1600000 in
theorem read_any {w : World} {b : Nat} {F : Nat → Prop} {S : Dk} (h : Dsk w b F S) (hI : S.Inv) (n : Tx) (hn : n.length ≤ 33554432) :
    Calls Tryz.prog 24 #[.pointer (some ⟨b, 0, none⟩), .string (str n)] w (ReadEnd S n w) := by
  obtain ⟨φ, h⟩ := h
  have HFi := find_any h n hn
  unfold FoundEnd at HFi
  have H := Lib.hid h
  by_cases h0 : S.askE n = 0
  · rw [if_pos h0, h0] at HFi
    replace HFi := Lib.hid HFi
    have hl := hI.fileLt h0
    obtain ⟨f, hf⟩ : ∃ f, S.files[S.fileOf n]? = some f := ⟨_, List.getElem?_eq_getElem hl⟩
    obtain ⟨c0, c1, -, -, -⟩ := h.fileAt hf
    have HR := Lib.hid (show S.readT n = f.text ∧ S.askE n = 0 from ⟨by unfold Dk.readT; rw [if_pos h0, hf], h0⟩)
    unfold strV at c0
    clear h h0 hf hl
    go_enter Tryz.func24, Tryz.ntmps24
    go_wp2_with fail
    ((with_reducible refine HFi.out.mono ?_); rintro e w1 ⟨rfl, rfl⟩)
    go_wp2
    go_ret2
    exact ⟨by rw [HR.out.1, HR.out.2]; rfl, rfl⟩
  · skip
    rw [if_neg h0] at HFi
    obtain ⟨k, hk⟩ : ∃ k, S.askE n = k := ⟨_, rfl⟩
    rw [hk] at HFi h0
    replace HFi := Lib.hid HFi
    have b1 : ((k : Int) == 0) = false := by rw [beq_eq_false_iff_ne]; omega
    have HR := Lib.hid (show S.readT n = [] ∧ S.askE n = k from ⟨by unfold Dk.readT; rw [if_neg (by omega)], hk⟩)
    clear h h0 hk
    go_enter Tryz.func24, Tryz.ntmps24
    go_wp2_with fail
    ((with_reducible refine HFi.out.mono ?_); rintro e w1 ⟨rfl, rfl⟩)
    go_wp2
    go_ret2
    exact ⟨by rw [HR.out.1, HR.out.2]; rfl, rfl⟩
set_option maxRecDepth 100000 in
set_option maxHeartbeats 1600000 in
theorem synced_any {w : World} {b : Nat} {F : Nat → Prop} {S : Dk} (h : Dsk w b F S) (hI : S.Inv) (n : Tx) (hn : n.length ≤ 33554432) :
    Calls Tryz.prog 71 #[.pointer (some ⟨b, 0, none⟩), .string (str n)] w (SyncedEnd S n w) := by
  obtain ⟨φ, h⟩ := h
  have HFi := find_any h n hn
  unfold FoundEnd at HFi
  have H := Lib.hid h
  by_cases h0 : S.askE n = 0
  · rw [if_pos h0, h0] at HFi
    replace HFi := Lib.hid HFi
    have hl := hI.fileLt h0
    obtain ⟨f, hf⟩ : ∃ f, S.files[S.fileOf n]? = some f := ⟨_, List.getElem?_eq_getElem hl⟩
    obtain ⟨c0, c1, -, -, -⟩ := h.fileAt hf
    have HR := Lib.hid (show S.readN n = f.sync ∧ S.askE n = 0 from ⟨by unfold Dk.readN; rw [if_pos h0, hf], h0⟩)
    unfold strV at c0
    clear h h0 hf hl
    go_enter Tryz.func71, Tryz.ntmps71
    go_wp2_with fail
    ((with_reducible refine HFi.out.mono ?_); rintro e w1 ⟨rfl, rfl⟩)
    go_wp2
    go_ret2
    exact ⟨by rw [HR.out.1, HR.out.2]; rfl, rfl⟩
  · skip
    rw [if_neg h0] at HFi
    obtain ⟨k, hk⟩ : ∃ k, S.askE n = k := ⟨_, rfl⟩
    rw [hk] at HFi h0
    replace HFi := Lib.hid HFi
    have b1 : ((k : Int) == 0) = false := by rw [beq_eq_false_iff_ne]; omega
    have HR := Lib.hid (show S.readN n = 0 ∧ S.askE n = k from ⟨by unfold Dk.readN; rw [if_neg (by omega)], hk⟩)
    clear h h0 hk
    go_enter Tryz.func71, Tryz.ntmps71
    go_wp2_with fail
    ((with_reducible refine HFi.out.mono ?_); rintro e w1 ⟨rfl, rfl⟩)
    go_wp2
    go_ret2
    exact ⟨by rw [HR.out.1, HR.out.2]; rfl, rfl⟩
set_option maxRecDepth 100000 in
set_option maxHeartbeats 1600000 in
theorem sync_any {w : World} {b j : Nat} {F : Nat → Prop} {S : Dk} (h : Dsk w b F S) (hI : S.Inv) (hS : S.Small j) (hj : j ≤ 4194304) (n : Tx) (hn : n.length ≤ 33554432) :
    Calls Tryz.prog 52 #[.pointer (some ⟨b, 0, none⟩), .string (str n)] w (OpEnd b F (S.syncS n) (.int .i64 (S.appendE n)) w) := by
  obtain ⟨φ, h⟩ := h
  have HFi := find_any h n hn
  unfold FoundEnd at HFi
  have H := Lib.hid h
  have HSt := step_any h (by have := hS.steps; omega) hS.plan
  unfold StepEnd at HSt
  obtain ⟨v0, hv0⟩ : ∃ v, hitV S = v := ⟨_, rfl⟩
  rw [hv0] at HSt
  by_cases h0 : S.askE n = 0
  · skip
    rw [if_pos h0, h0] at HFi
    replace HFi := Lib.hid HFi
    have hl := hI.fileLt h0
    obtain ⟨f, hf⟩ : ∃ f, S.files[S.fileOf n]? = some f := ⟨_, List.getElem?_eq_getElem hl⟩
    have HFL := Lib.hid (show S.faultS.files[S.fileOf n]? = some f from hf)
    obtain ⟨i, hi⟩ : ∃ i, S.fileOf n = i := ⟨_, rfl⟩
    rw [hi] at HFi HFL
    by_cases hfe : S.faultE = 0
    · rw [hfe] at HSt
      replace HSt := Lib.hid HSt
      have HR := Lib.hid (show S.appendE n = 0 ∧ S.syncS n = S.faultS.setF i (fun f => ⟨f.text, f.text.length⟩) from ⟨by unfold Dk.appendE; rw [if_neg (by omega), hfe], by unfold Dk.syncS; rw [if_neg (by omega), if_neg (by omega), hi]⟩)
      clear h h0 hf hl hi hfe hv0
      go_enter Tryz.func52, Tryz.ntmps52
      go_wp2_with fail
      ((with_reducible refine HFi.out.mono ?_); rintro e w1 ⟨rfl, rfl⟩)
      go_wp2_with fail
      ((with_reducible refine HSt.out.mono ?_); rintro e w2 ⟨rfl, d2, r2⟩)
      obtain ⟨c0, c1, c2, -, -⟩ := d2.fileAt HFL.out
      have HD2 := Lib.hid (And.intro d2 r2)
      unfold strV at c0
      have hsz := str_size f.text
      clear d2 r2
      go_wp2
      go_ret
      have P := HD2.out.1.setFile HFL.out (k := 1) (v := .int .i64 f.text.length) (fun f => ⟨f.text, f.text.length⟩) rfl
      exact ⟨by rw [HR.out.1]; rfl, by rw [HR.out.2]; exact Leaves.same P.1 (HD2.out.2.trans P.2 (Grew.refl _ _))⟩
    · obtain ⟨fe, hfe2⟩ : ∃ fe, S.faultE = fe := ⟨_, rfl⟩
      rw [hfe2] at hfe HSt
      replace HSt := Lib.hid HSt
      have HR := Lib.hid (show S.appendE n = fe ∧ S.syncS n = S.faultS from ⟨by unfold Dk.appendE; rw [if_neg (by omega), hfe2], by unfold Dk.syncS; rw [if_neg (by omega), if_pos (by omega)]⟩)
      have b1 : ((fe : Int) == 0) = false := by rw [beq_eq_false_iff_ne]; omega
      clear h h0 hf hl hi hfe hfe2 hv0
      go_enter Tryz.func52, Tryz.ntmps52
      go_wp2_with fail
      ((with_reducible refine HFi.out.mono ?_); rintro e w1 ⟨rfl, rfl⟩)
      go_wp2_with fail
      ((with_reducible refine HSt.out.mono ?_); rintro e w2 ⟨rfl, d2, r2⟩)
      have HD2 := Lib.hid (And.intro d2 r2)
      clear d2 r2
      go_wp2
      go_ret
      exact ⟨by rw [HR.out.1]; rfl, by rw [HR.out.2]; exact Leaves.same HD2.out.1 HD2.out.2⟩
  · skip
    rw [if_neg h0] at HFi
    obtain ⟨k, hk⟩ : ∃ k, S.askE n = k := ⟨_, rfl⟩
    rw [hk] at HFi h0
    replace HFi := Lib.hid HFi
    have b1 : ((k : Int) == 0) = false := by rw [beq_eq_false_iff_ne]; omega
    have HR := Lib.hid (show S.appendE n = k ∧ S.syncS n = S from ⟨by unfold Dk.appendE; rw [if_pos (by omega), hk], by unfold Dk.syncS; rw [if_pos (by omega)]⟩)
    clear h h0 hk HSt hv0
    go_enter Tryz.func52, Tryz.ntmps52
    go_wp2_with fail
    ((with_reducible refine HFi.out.mono ?_); rintro e w1 ⟨rfl, rfl⟩)
    go_wp2
    go_ret
    exact ⟨by rw [HR.out.1]; rfl, by rw [HR.out.2]; exact Leaves.same H.out (Wr.refl _ _)⟩
end Go.Proofs.YtfbjmhipjfjaeaaGreatDoor
