/- The disk of the program: step, find. -/
import Derived.Test.YtbjlffhnkcbnmaaDsk2
namespace Go.Proofs.Ytbjlffhnkcbnmaa
open Go.ChangeShapes Go.WideShapes Go.ChangeAt Go.RowKit Go.Maps
open Pl (Tx Fl Ch Nm Dk)
set_option linter.unusedVariables false

/-- A block of three cells: a fault. -/
def Blk3 (w : World) (g : Nat) (a b c : Value) : Prop := w.heap[g]? = some (.cells #[a, b, c] 58 (0, 0))
namespace Blk3
variable {w w' : World} {g : Nat} {a b c : Value}
theorem cells (h : Blk3 w g a b c) : w.cell? ⟨g, 0, none⟩ = some a ∧ w.cell? ⟨g, 1, none⟩ = some b ∧ w.cell? ⟨g, 2, none⟩ = some c := by
  unfold Blk3 at h
  simp [World.cell?, h]
theorem free (h : Blk3 w g a b c) (i : Nat) : w.frozen? ⟨g, i, none⟩ = false := by
  unfold Blk3 at h
  simp [World.frozen?, h]
theorem kept (h : Blk3 w g a b c) (hb : w'.heap[g]? = w.heap[g]?) : Blk3 w' g a b c := hb.trans h
theorem lt (h : Blk3 w g a b c) : g < w.heap.size := (Array.getElem?_eq_some_iff.1 h).1
theorem later (h : Blk3 w g a b c) (hb : Below w.heap.size w w') : Blk3 w' g a b c := h.kept (hb.block g h.lt)
theorem set0 (h : Blk3 w g a b c) (u : Value) : Blk3 (w.setCell ⟨g, 0, none⟩ u) g u b c := heap_setCell_same h
theorem set1 (h : Blk3 w g a b c) (u : Value) : Blk3 (w.setCell ⟨g, 1, none⟩ u) g a u c := heap_setCell_same h
theorem set2 (h : Blk3 w g a b c) (u : Value) : Blk3 (w.setCell ⟨g, 2, none⟩ u) g a b u := heap_setCell_same h
theorem new (h : g = w.heap.size) : Blk3 (w.alloc (.cells #[a, b, c] 58)) g a b c := by subst h; exact heap_alloc_new w _
theorem alloc (h : Blk3 w g a b c) (o : Obj) : Blk3 (w.alloc o) g a b c := (heap_alloc_old w o h.lt).trans h
theorem other (h : Blk3 w g a b c) {p : Addr} (hp : g ≠ p.block) (u : Value) : Blk3 (w.setCell p u) g a b c := (Below.heap_setCell _ _ _ _ hp).trans h
end Blk3
theorem Wr.setNew {F : Nat → Prop} {a w : World} (h : Wr F a w) {p : Addr} (hp : a.heap.size ≤ p.block) (u : Value) : Wr F a (w.setCell p u) :=
  ⟨h.os, h.tape, h.output, by simpa [World.setCell] using h.size, fun k hk hf => (Below.heap_setCell _ _ _ _ (by omega)).trans (h.block k hk hf)⟩
theorem results_cell_tmp {P : Program} {fn : Func} {p u : Tmp} {ty : TypeId} (h : fn.results = #[.cell p ty, .tmp u]) (tmps : Array Value) (w : World) (g : Nat) (val : Value)
    (hp : tmps.getD p undef = .pointer (some ⟨g, 0, none⟩)) (hl : (loadVar ty ⟨g, 0, none⟩).run P w = .ok val w) :
    (results fn tmps).run P w = .ok (.tuple #[val, tmps.getD u undef]) w := by
  have hp' : tmps[p]?.getD undef = .pointer (some ⟨g, 0, none⟩) := by simpa using hp
  simp [results, h, hp', asAddr, hl]
theorem faultInfo : (Try.prog.info? 58).map (·.size) = some 3 := by kernel_rfl
theorem fault_end {W : World} {a b c : Value} {tmps : Array Value} {n p u : Nat} {fn : Func} (hr : fn.results = #[.cell p 58, .tmp u]) (hp : tmps.getD p undef = .pointer (some ⟨n, 0, none⟩)) (hg : Blk3 W n a b c) :
    (results fn tmps).run Try.prog W = .ok (.tuple #[.agg #[a, b, c], tmps.getD u undef]) W :=
  results_cell_tmp hr tmps W n _ hp (run_loadVar_row W n _ _ _ _ _ hg Try.underlying58 rfl faultInfo)
theorem find_none_take {S : Dk} {n : Int} (h : ∀ (j : Nat) (p : Int × Int × Int), S.plan[j]? = some p → p.1 ≠ n) : S.plan.find? (fun p => decide (p.1 = n)) = none := by
  rw [List.find?_eq_none]
  intro p hp
  obtain ⟨j, hj⟩ := List.getElem?_of_mem hp
  simpa using h j p hj
theorem find_at {l : List (Int × Int × Int)} {n : Int} {j : Nat} {p : Int × Int × Int} (hj : l[j]? = some p) (hp : p.1 = n) (h : ∀ i q, i < j → l[i]? = some q → q.1 ≠ n) : l.find? (fun p => decide (p.1 = n)) = some p := by
  induction l generalizing j with
  | nil => simp at hj
  | cons x r ih =>
    cases j with
    | zero =>
      simp at hj; subst hj
      simp [hp]
    | succ j =>
      have h0 := h 0 x (by omega) rfl
      rw [List.find?_cons_of_neg (by simpa using h0)]
      exact ih (by simpa using hj) fun i q hi hq => h (i + 1) q (by omega) (by simpa using hq)
/-- The fault that a step meets, as it is told. -/
def hitV (S : Dk) : Value := match S.hit with
  | none => .agg #[.int .i64 0, .int .i64 0, .int .i64 0]
  | some p => .agg #[.int .i64 p.1, .int .i64 p.2.1, .int .i64 p.2.2]
def StepEnd (b : Nat) (F : Nat → Prop) (φ : Nat → Nat) (S : Dk) (w : World) (e : Ending) (w' : World) : Prop := e = .returned (.tuple #[hitV S, .int .i64 S.faultE]) ∧ Disk w' b F φ S.faultS ∧ Wr F w w'
set_option maxRecDepth 100000 in
set_option maxHeartbeats 1600000 in
theorem step_any {w : World} {b : Nat} {F : Nat → Prop} {φ : Nat → Nat} {S : Dk} (h : Disk w b F φ S) (hs : S.steps ≤ 1099511627776) (hp : S.plan.length ≤ 1024) :
    Calls Try.prog 37 #[.pointer (some ⟨b, 0, none⟩)] w (StepEnd b F φ S w) := by
  obtain ⟨nm, lm, ov, pv, h⟩ := h
  obtain ⟨pa, pc, rfl⟩ := h.plan.shape
  obtain ⟨c0, c1, c2, c3, c4, c5⟩ := (h.alloc (.cells #[.int .i64 0, .int .i64 0, .int .i64 0] 58)).cells
  have f3 := (h.alloc (.cells #[.int .i64 0, .int .i64 0, .int .i64 0] 58)).free 3
  have hlt := h.lt b h.own
  have hbw : b ≠ w.heap.size := by omega
  obtain ⟨T, hT⟩ : ∃ T : Dk, { S with steps := S.steps + 1 } = T := ⟨_, rfl⟩
  have hU : DiskAt (w.setCell ⟨b, 3, none⟩ (.int .i64 ((S.steps : Int) + 1))) b F φ T nm lm ov (.slice pa S.plan.length pc) := by
    subst hT
    exact h.upd rfl rfl rfl rfl rfl (heap_setCell_same h.block) (fun k hk => Below.heap_setCell _ _ _ _ hk) (heap_setCell_size _ _ _)
  have hWr : Wr F w (w.setCell ⟨b, 3, none⟩ (.int .i64 ((S.steps : Int) + 1))) := (Wr.refl F w).setCell h.own _
  obtain ⟨d0, d1, d2, d3, d4, d5⟩ := (hU.alloc (.cells #[.int .i64 0, .int .i64 0, .int .i64 0] 58)).cells
  have HT := Lib.hid hT
  have H := Lib.hid h
  have HU := Lib.hid (And.intro hU hWr)
  have hTs : (T.steps : Int) = (S.steps : Int) + 1 := by rw [← hT]; exact Int.natCast_succ S.steps
  have hTp : T.plan = S.plan := by rw [← hT]
  have HTp := Lib.hid hTp
  have HTs := Lib.hid hTs
  clear h hU hWr hT hTs hTp d0 d1 d2 d3 d5
  go_enter Try.func37, Try.ntmps37
  go_wp2_with fail
  go_loopw [18] (fun i wr => ∃ j : Nat, j ≤ S.plan.length ∧ i = .int .i64 j ∧ Hid (DiskAt wr b F φ T nm lm ov (.slice pa S.plan.length pc)) ∧ Hid (Wr F w wr) ∧ Hid (Blk3 wr w.heap.size (.int .i64 0) (.int .i64 0) (.int .i64 0)) ∧ Hid (∀ i q, i < j → S.plan[i]? = some q → q.1 ≠ (S.steps : Int) + 1)) (fun i _ => S.plan.length - (intOf i).toNat)
  case atStart => exact ⟨0, Nat.zero_le _, rfl, HU.out.1.alloc _, HU.out.2.alloc _, Blk3.new (by rw [heap_setCell_size]), fun i q hi => by omega⟩
  case round =>
    obtain ⟨j, hj, rfl, hd, hw, hx, hno⟩ := hrel
    have hsz := hw.out.size
    by_cases hjl : j < S.plan.length
    · obtain ⟨p, hpj⟩ : ∃ p, S.plan[j]? = some p := ⟨_, List.getElem?_eq_getElem hjl⟩
      obtain ⟨g, off, rfl, hgF, hg, p0, p1, p2⟩ := hd.out.plan.at_ (by rw [HTp.out]; exact hpj)
      have hjI : (j : Int) < (S.plan.length : Int) := by omega
      have hj0 : (0 : Int) ≤ (j : Int) := by omega
      have HX := Lib.hid (fun o => hx.out.alloc o)
      have HD := Lib.hid (fun o => hd.out.alloc o)
      have HE := Lib.hid (show ∀ o, (wr.alloc o).cell? ⟨b, 3, none⟩ = some (.int .i64 ((S.steps : Int) + 1)) from fun o => by rw [← HTs.out]; exact (hd.out.alloc o).cells.2.2.2.1)
      have e3 := HE.out
      have HPJ := Lib.hid hpj
      have hxl := hx.out.lt
      clear hpj
      by_cases he : p.1 = (S.steps : Int) + 1
      · have HH := Lib.hid (show S.hit = some p from find_at HPJ.out he hno.out)
        have he1 : (p.1 == (S.steps : Int) + 1) = true := by rw [he]; exact beq_self_eq_true _
        have HY := Lib.hid (show Blk3 (wr.alloc (.cells #[.int .i64 p.1, .int .i64 p.2.1, .int .i64 p.2.2] 58)) wr.heap.size (.int .i64 p.1) (.int .i64 p.2.1) (.int .i64 p.2.2) from Blk3.new rfl)
        have hne1 : wr.heap.size ≠ b := by omega
        have hne2 : w.heap.size ≠ b := by omega
        have hne3 : wr.heap.size ≠ w.heap.size := by omega
        rw [he] at HY p0
        by_cases hk : p.2.1 = 3
        · have hk1 : (p.2.1 == 3) = true := by rw [hk]; rfl
          have HV := Lib.hid (show hitV S = .agg #[.int .i64 ((S.steps : Int) + 1), .int .i64 3, .int .i64 p.2.2] ∧ S.faultE = 53 ∧ S.faultS = { T with down := true } from by
            refine ⟨by unfold hitV; rw [HH.out]; simp only; rw [he, hk], by unfold Dk.faultE; rw [HH.out]; simp only; rw [if_pos hk], ?_⟩
            rw [← HT.out]; unfold Dk.faultS; rw [HH.out]; simp [hk])
          rw [hk] at HY p1
          clear hk1
          go_wp2_with fail
          go_quiet (fail)
          have HQ := Lib.hid (show DiskAt ((wr.alloc (.cells #[.int .i64 ((S.steps : Int) + 1), .int .i64 3, .int .i64 p.2.2] 58)).drewN nq) b F φ T nm lm ov _ ∧ Wr F w ((wr.alloc (.cells #[.int .i64 ((S.steps : Int) + 1), .int .i64 3, .int .i64 p.2.2] 58)).drewN nq) ∧ Blk3 ((wr.alloc (.cells #[.int .i64 ((S.steps : Int) + 1), .int .i64 3, .int .i64 p.2.2] 58)).drewN nq) w.heap.size (.int .i64 0) (.int .i64 0) (.int .i64 0) ∧ Blk3 ((wr.alloc (.cells #[.int .i64 ((S.steps : Int) + 1), .int .i64 3, .int .i64 p.2.2] 58)).drewN nq) wr.heap.size (.int .i64 ((S.steps : Int) + 1)) (.int .i64 3) (.int .i64 p.2.2) from
            ⟨(HD.out _).below (below_drewN (Below.refl _ _) nq), (hw.out.alloc _).drewN nq, (HX.out _).later (below_drewN (Below.refl _ _) nq), HY.out.later (below_drewN (Below.refl _ _) nq)⟩)
          generalize (wr.alloc (.cells #[.int .i64 ((S.steps : Int) + 1), .int .i64 3, .int .i64 p.2.2] 58)).drewN nq = W at HQ ⊢
          obtain ⟨-, -, -, -, -, q5⟩ := HQ.out.1.cells
          have g5 := HQ.out.1.free 5
          have HS5 := Lib.hid (show DiskAt (W.setCell ⟨b, 5, none⟩ (.bool true)) b F φ { T with down := true } nm lm ov _ from HQ.out.1.upd rfl rfl rfl rfl rfl (heap_setCell_same HQ.out.1.block) (fun k hk => Below.heap_setCell _ _ _ _ hk) (heap_setCell_size _ _ _))
          have HX5 := Lib.hid (HQ.out.2.2.1.other (p := ⟨b, 5, none⟩) hne2 (.bool true))
          obtain ⟨k0, k1, k2⟩ := HX5.out.cells
          have k3 := fun i => HX5.out.free i
          obtain ⟨z0, z1, z2⟩ := HQ.out.2.2.2.cells
          obtain ⟨y0, y1, y2⟩ := (HQ.out.2.2.2.other (p := ⟨b, 5, none⟩) hne1 (.bool true)).cells
          go_wp2
          refine bodyPost_ret (fault_end rfl rfl (((HX5.out.set0 _).set1 _).set2 _)) rfl ⟨by rw [HV.out.1, HV.out.2.1]; rfl, ?_, ?_⟩
          · rw [HV.out.2.2]
            have hnF : ¬ F w.heap.size := fun hk => Nat.lt_irrefl _ (H.out.lt _ hk)
            exact DiskAt.disk (((HS5.out.store (p := ⟨w.heap.size, 0, none⟩) hnF _).store (p := ⟨w.heap.size, 1, none⟩) hnF _).store (p := ⟨w.heap.size, 2, none⟩) hnF _)
          · exact ((((HQ.out.2.1.setCell (p := ⟨b, 5, none⟩) H.out.own _).setNew (p := ⟨w.heap.size, 0, none⟩) (Nat.le_refl _) _).setNew (p := ⟨w.heap.size, 1, none⟩) (Nat.le_refl _) _).setNew (p := ⟨w.heap.size, 2, none⟩) (Nat.le_refl _) _)
        · have hk1 : (p.2.1 == 3) = false := by rw [beq_eq_false_iff_ne]; exact hk
          have HV := Lib.hid (show hitV S = .agg #[.int .i64 ((S.steps : Int) + 1), .int .i64 p.2.1, .int .i64 p.2.2] ∧ S.faultE = 52 ∧ S.faultS = T from by
            refine ⟨by unfold hitV; rw [HH.out]; simp only; rw [he], by unfold Dk.faultE; rw [HH.out]; simp only; rw [if_neg hk], ?_⟩
            rw [← HT.out]; unfold Dk.faultS; rw [HH.out]; simp [hk])
          go_wp2_with fail
          go_quiet (fail)
          have HQ := Lib.hid (show DiskAt ((wr.alloc (.cells #[.int .i64 ((S.steps : Int) + 1), .int .i64 p.2.1, .int .i64 p.2.2] 58)).drewN nq) b F φ T nm lm ov _ ∧ Wr F w ((wr.alloc (.cells #[.int .i64 ((S.steps : Int) + 1), .int .i64 p.2.1, .int .i64 p.2.2] 58)).drewN nq) ∧ Blk3 ((wr.alloc (.cells #[.int .i64 ((S.steps : Int) + 1), .int .i64 p.2.1, .int .i64 p.2.2] 58)).drewN nq) w.heap.size (.int .i64 0) (.int .i64 0) (.int .i64 0) ∧ Blk3 ((wr.alloc (.cells #[.int .i64 ((S.steps : Int) + 1), .int .i64 p.2.1, .int .i64 p.2.2] 58)).drewN nq) wr.heap.size (.int .i64 ((S.steps : Int) + 1)) (.int .i64 p.2.1) (.int .i64 p.2.2) from
            ⟨(HD.out _).below (below_drewN (Below.refl _ _) nq), (hw.out.alloc _).drewN nq, (HX.out _).later (below_drewN (Below.refl _ _) nq), HY.out.later (below_drewN (Below.refl _ _) nq)⟩)
          generalize (wr.alloc (.cells #[.int .i64 ((S.steps : Int) + 1), .int .i64 p.2.1, .int .i64 p.2.2] 58)).drewN nq = W at HQ ⊢
          obtain ⟨k0, k1, k2⟩ := HQ.out.2.2.1.cells
          have k3 := fun i => HQ.out.2.2.1.free i
          obtain ⟨y0, y1, y2⟩ := HQ.out.2.2.2.cells
          go_wp2
          refine bodyPost_ret (fault_end rfl rfl (((HQ.out.2.2.1.set0 _).set1 _).set2 _)) rfl ⟨by rw [HV.out.1, HV.out.2.1]; rfl, ?_, ?_⟩
          · rw [HV.out.2.2]
            have hnF : ¬ F w.heap.size := fun hk => Nat.lt_irrefl _ (H.out.lt _ hk)
            exact DiskAt.disk (((HQ.out.1.store (p := ⟨w.heap.size, 0, none⟩) hnF _).store (p := ⟨w.heap.size, 1, none⟩) hnF _).store (p := ⟨w.heap.size, 2, none⟩) hnF _)
          · exact (((HQ.out.2.1.setNew (p := ⟨w.heap.size, 0, none⟩) (Nat.le_refl _) _).setNew (p := ⟨w.heap.size, 1, none⟩) (Nat.le_refl _) _).setNew (p := ⟨w.heap.size, 2, none⟩) (Nat.le_refl _) _)
      · have he1 : (p.1 == (S.steps : Int) + 1) = false := by rw [beq_eq_false_iff_ne]; exact he
        go_wp2_with fail
        go_quiet (fail)
        go_wp2
        go_roundw
        case rel => exact ⟨j + 1, by omega, by go_num, (HD.out _).below (below_drewN (Below.refl _ _) nq), (hw.out.alloc _).drewN nq, (HX.out _).later (below_drewN (Below.refl _ _) nq), fun i q hi hq => by
          by_cases e : i = j
          · subst e; rw [HPJ.out] at hq; cases hq; exact he
          · exact hno.out i q (by omega) hq⟩
        case measure => simp [intOf]; omega
    · obtain rfl : j = S.plan.length := by omega
      have HH := Lib.hid (show S.hit = none from find_none_take fun i q hq => hno.out i q (List.getElem?_eq_some_iff.1 hq).1 hq)
      have HV := Lib.hid (show hitV S = .agg #[.int .i64 0, .int .i64 0, .int .i64 0] ∧ S.faultE = 0 ∧ S.faultS = T from by
        refine ⟨by unfold hitV; rw [HH.out], by unfold Dk.faultE; rw [HH.out], ?_⟩
        rw [← HT.out]; unfold Dk.faultS; rw [HH.out]; simp)
      obtain ⟨k0, k1, k2⟩ := hx.out.cells
      have k3 := fun i => hx.out.free i
      go_wp2
      refine bodyPost_ret (fault_end rfl rfl (((hx.out.set0 _).set1 _).set2 _)) rfl ⟨by rw [HV.out.1, HV.out.2.1]; rfl, ?_, ?_⟩
      · rw [HV.out.2.2]
        have hnF : ¬ F w.heap.size := fun hk => Nat.lt_irrefl _ (H.out.lt _ hk)
        exact DiskAt.disk (((hd.out.store (p := ⟨w.heap.size, 0, none⟩) hnF _).store (p := ⟨w.heap.size, 1, none⟩) hnF _).store (p := ⟨w.heap.size, 2, none⟩) hnF _)
      · exact (((hw.out.setNew (p := ⟨w.heap.size, 0, none⟩) (Nat.le_refl _) _).setNew (p := ⟨w.heap.size, 1, none⟩) (Nat.le_refl _) _).setNew (p := ⟨w.heap.size, 2, none⟩) (Nat.le_refl _) _)
/-- What a name leads to, or the error. -/
def FoundEnd (φ : Nat → Nat) (S : Dk) (n : Tx) (w : World) (e : Ending) (w' : World) : Prop :=
  e = .returned (.tuple #[if S.askE n = 0 then .pointer (some ⟨φ (S.fileOf n), 0, none⟩) else .pointer none, .int .i64 (S.askE n)]) ∧ w = w'
theorem FoundEnd.bad {φ : Nat → Nat} {S : Dk} {n : Tx} {w : World} {k : Int} (h : (S.askE n : Int) = k) (h0 : k ≠ 0) : FoundEnd φ S n w (.returned (.tuple #[.pointer none, .int .i64 k])) w := by
  subst h
  exact ⟨by rw [if_neg (by omega)], rfl⟩
set_option maxRecDepth 100000 in
set_option maxHeartbeats 1600000 in
theorem find_any {w : World} {b : Nat} {F : Nat → Prop} {φ : Nat → Nat} {S : Dk} (h : Disk w b F φ S) (n : Tx) (hn : n.length ≤ 140737488355328) :
    Calls Try.prog 36 #[.pointer (some ⟨b, 0, none⟩), .string (str n)] w (FoundEnd φ S n w) := by
  obtain ⟨nm, lm, ov, pv, h⟩ := h
  obtain ⟨c0, -, -, -, -, c5⟩ := h.cells
  obtain ⟨D, hown, hf⟩ := h.names
  have HF := Lib.hid hf
  have hk := key_str hn
  unfold strV at hk
  clear h hf
  cases hd : S.down with
  | true =>
    rw [hd] at c5
    have HA := Lib.hid (show (S.askE n : Int) = 53 by unfold Dk.askE; rw [if_pos hd]; rfl)
    clear hd
    go_enter Try.func36, Try.ntmps36
    go_wp2
    go_ret2
    exact FoundEnd.bad HA.out (by omega)
  | false =>
    rw [hd] at c5
    by_cases h0 : n = []
    · subst h0
      have HA := Lib.hid (show (S.askE [] : Int) = 1 by unfold Dk.askE; rw [if_neg (by simp [hd]), if_pos rfl]; rfl)
      clear hd
      have hb1 : ((str []).toList == ([] : List UInt8)) = true := by rw [str_none]; rfl
      have hb2 : (str []).toList.isEmpty = true := by rw [str_empty]; rfl
      go_enter Try.func36, Try.ntmps36
      go_wp2
      go_ret2
      exact FoundEnd.bad HA.out (by omega)
    · have hb1 : ((str n).toList == ([] : List UInt8)) = false := by rw [str_none, decide_eq_false h0]
      have hb2 : (str n).toList.isEmpty = false := by rw [str_empty, decide_eq_false h0]
      have h0' : (str n).toList ≠ [] := by rw [strList]; exact h0
      cases hfi : Pl.find S.names n with
      | none =>
        have HA := Lib.hid (show (S.askE n : Int) = 50 by unfold Dk.askE; rw [if_neg (by simp [hd]), if_neg h0, hfi]; rfl)
        have hhas : Maps.has D (litB n) = false := by rw [HF.out.has, hfi]; rfl
        have HZ := Lib.hid (Maps.atKey_of_not_has hhas .nil)
        clear hd h0 hfi
        go_enter Try.func36, Try.ntmps36
        go_wp2_with (at_lookup; refine wpList_lookup_own_ok _ rfl _ _ 66 rfl 9 70 strKeyed Try.underlying66 ptrE (zeroP _) .nil [] rfl nm _ D rfl hown _ _ rfl hk ?_; intro v ps hv; rw [HZ.out] at hv; obtain rfl := ptrE_nil hv; clear hv)
        go_ret2
        exact FoundEnd.bad HA.out (by omega)
      | some i =>
        have HA := Lib.hid (show S.askE n = 0 ∧ S.fileOf n = i by unfold Dk.askE Dk.fileOf; rw [if_neg (by simp [hd]), if_neg h0, hfi]; exact ⟨rfl, rfl⟩)
        have hhas : Maps.has D (litB n) = true := by rw [HF.out.has, hfi]; rfl
        have HZ := Lib.hid (HF.out.at_ n i hfi)
        clear hd h0 hfi
        go_enter Try.func36, Try.ntmps36
        go_wp2_with (at_lookup; refine wpList_lookup_own_ok _ rfl _ _ 66 rfl 9 70 strKeyed Try.underlying66 ptrE (zeroP _) .nil [] rfl nm _ D rfl hown _ _ rfl hk ?_; intro v ps hv; rw [HZ.out] at hv; obtain rfl := ptrE_lit hv; clear hv)
        go_ret2
        exact ⟨by rw [HA.out.1, HA.out.2]; rfl, rfl⟩
end Go.Proofs.Ytbjlffhnkcbnmaa
