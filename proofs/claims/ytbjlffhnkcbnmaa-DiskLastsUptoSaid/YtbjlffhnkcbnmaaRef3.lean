/- The document's disk: its block; fault, asked. -/
import Derived.Test.YtbjlffhnkcbnmaaRef2
import Derived.Test.YtbjlffhnkcbnmaaDsk3
namespace Go.Proofs.Ytbjlffhnkcbnmaa
open Go.ChangeShapes Go.WideShapes Go.ChangeAt Go.RowKit Pl
set_option linter.unusedVariables false

def rfCells (f : Fl) : List Value := [strV f.text, .int .i64 f.sync]
/-- The document's disk: its block and what it leads to. -/
structure RDiskAt (w : World) (b : Nat) (F : Nat → Prop) (S : Dk) (fv nv lv ov pv : Value) : Prop where
  lt : ∀ k, F k → k < w.heap.size
  own : F b
  block : w.heap[b]? = some (.cells #[fv, nv, lv, ov, pv, .int .i64 S.steps, .bool S.down] 52 (0, 0))
  files : RowC w F 100 2 fv S.files.length (S.files.flatMap rfCells)
  names : NRow w F nv S.names
  last : NRow w F lv S.last
  opn : RowC w F 98 4 ov S.opn.length (S.opn.flatMap rcCells)
  plan : PRow w F pv S.plan
def RDisk (w : World) (b : Nat) (F : Nat → Prop) (S : Dk) : Prop := ∃ fv nv lv ov pv, RDiskAt w b F S fv nv lv ov pv
namespace RDiskAt
variable {w w' : World} {b : Nat} {F G : Nat → Prop} {S S' : Dk} {fv nv lv ov pv : Value}
theorem kept (h : RDiskAt w b F S fv nv lv ov pv) (hw : Wr G w w') (hFG : ∀ k, F k → ¬ G k) : RDiskAt w' b F S fv nv lv ov pv :=
  ⟨fun k hk => Nat.lt_of_lt_of_le (h.lt k hk) hw.size, h.own, (hw.block b (h.lt b h.own) (hFG b h.own)).trans h.block, h.files.kept hw hFG, h.names.kept hw hFG, h.last.kept hw hFG, h.opn.kept hw hFG, h.plan.kept hw hFG⟩
theorem below (h : RDiskAt w b F S fv nv lv ov pv) (hw : Below w.heap.size w w') : RDiskAt w' b F S fv nv lv ov pv := h.kept (G := fun _ => False) (Wr.of_below hw) (fun _ _ h => h)
theorem alloc (h : RDiskAt w b F S fv nv lv ov pv) (o : Obj) : RDiskAt (w.alloc o) b F S fv nv lv ov pv := h.below ((Below.refl _ _).alloc (Nat.le_refl _) _)
theorem disk (h : RDiskAt w b F S fv nv lv ov pv) : RDisk w b F S := ⟨fv, nv, lv, ov, pv, h⟩
theorem cells (h : RDiskAt w b F S fv nv lv ov pv) : w.cell? ⟨b, 0, none⟩ = some fv ∧ w.cell? ⟨b, 1, none⟩ = some nv ∧ w.cell? ⟨b, 2, none⟩ = some lv ∧ w.cell? ⟨b, 3, none⟩ = some ov ∧ w.cell? ⟨b, 4, none⟩ = some pv ∧
    w.cell? ⟨b, 5, none⟩ = some (.int .i64 S.steps) ∧ w.cell? ⟨b, 6, none⟩ = some (.bool S.down) := by
  have hb := h.block
  refine ⟨?_, ?_, ?_, ?_, ?_, ?_, ?_⟩ <;> simp [World.cell?, hb]
theorem free (h : RDiskAt w b F S fv nv lv ov pv) (i : Nat) : w.frozen? ⟨b, i, none⟩ = false := by
  have hb := h.block
  simp only [World.frozen?, hb]
  simp
/-- A block of the disk's own type is no other one. -/
theorem notb (h : RDiskAt w b F S fv nv lv ov pv) {k : Nat} {cur : Array Value} {e : TypeId} {fz : Nat × Nat} (he : e ≠ 52) (hk : w.heap[k]? = some (.cells cur e fz)) : k ≠ b := by
  rintro rfl
  rw [h.block] at hk
  simp only [Option.some.injEq, Obj.cells.injEq] at hk
  exact he hk.2.1.symm
/-- Its own block alone is written. -/
theorem upd (h : RDiskAt w b F S fv nv lv ov pv) (h1 : S'.names = S.names) (h2 : S'.last = S.last) (h3 : S'.files = S.files) (h4 : S'.opn = S.opn) (h5 : S'.plan = S.plan)
    (hb : w'.heap[b]? = some (.cells #[fv, nv, lv, ov, pv, .int .i64 S'.steps, .bool S'.down] 52 (0, 0))) (ho : ∀ k, k ≠ b → w'.heap[k]? = w.heap[k]?) (hs : w'.heap.size = w.heap.size) : RDiskAt w' b F S' fv nv lv ov pv where
  lt := fun k hk => by rw [hs]; exact h.lt k hk
  own := h.own
  block := hb
  files := by rw [h3]; exact h.files.kept_by fun k cur hk => ho k (h.notb (by decide) hk)
  names := by rw [h1]; exact RowC.kept_by h.names fun k cur hk => ho k (h.notb (by decide) hk)
  last := by rw [h2]; exact RowC.kept_by h.last fun k cur hk => ho k (h.notb (by decide) hk)
  opn := by rw [h4]; exact h.opn.kept_by fun k cur hk => ho k (h.notb (by decide) hk)
  plan := by rw [h5]; exact h.plan.same (by rw [hs]; exact Nat.le_refl _) fun k cur fz _ hk => ho k (h.notb (by decide) hk)
end RDiskAt
def RFaultEnd (b : Nat) (F : Nat → Prop) (S : Dk) (w : World) (e : Ending) (w' : World) : Prop := e = .returned (.tuple #[.int .i64 S.faultE, .int .i64 S.faultN]) ∧ RDisk w' b F S.faultS ∧ Wr F w w'
set_option maxRecDepth 100000 in
set_option maxHeartbeats 1600000 in
theorem refFault_any {w : World} {b : Nat} {F : Nat → Prop} {S : Dk} (h : RDisk w b F S) (hs : S.steps ≤ 1099511627776) (hp : S.plan.length ≤ 1024) (hk : ∀ p ∈ S.plan, 1 ≤ p.2.1 ∧ p.2.1 ≤ 3 ∧ 0 ≤ p.2.2) :
    Calls Try.prog 56 #[.pointer (some ⟨b, 0, none⟩)] w (RFaultEnd b F S w) := by
  obtain ⟨fv, nv, lv, ov, pv, h⟩ := h
  obtain ⟨pa, pc, rfl⟩ := h.plan.shape
  obtain ⟨-, -, -, -, c4, c5, -⟩ := h.cells
  have f5 := h.free 5
  have hw1 : IntKind.i64.wrap ((S.steps : Int) + 1) = (S.steps : Int) + 1 := IntWalk.i64_in _ (by omega)
  obtain ⟨T, hT⟩ : ∃ T : Dk, { S with steps := S.steps + 1 } = T := ⟨_, rfl⟩
  have hU : RDiskAt (w.setCell ⟨b, 5, none⟩ (.int .i64 ((S.steps : Int) + 1))) b F T fv nv lv ov (.slice pa S.plan.length pc) := by
    subst hT
    exact h.upd rfl rfl rfl rfl rfl (heap_setCell_same h.block) (fun k hk => Below.heap_setCell _ _ _ _ hk) (heap_setCell_size _ _ _)
  have hWr : Wr F w (w.setCell ⟨b, 5, none⟩ (.int .i64 ((S.steps : Int) + 1))) := (Wr.refl F w).setCell h.own _
  have HT := Lib.hid hT
  have H := Lib.hid h
  have HU := Lib.hid (And.intro hU hWr)
  have hTs : (T.steps : Int) = (S.steps : Int) + 1 := by rw [← hT]; exact Int.natCast_succ S.steps
  have hTp : T.plan = S.plan := by rw [← hT]
  have HTp := Lib.hid hTp
  have HTs := Lib.hid hTs
  have HK := Lib.hid hk
  clear h hU hWr hT hTs hTp hk
  go_enter Try.func56, Try.ntmps56
  go_wp2_with fail
  go_loopw [4] (fun i wr => ∃ j : Nat, j ≤ S.plan.length ∧ i = .int .i64 j ∧ Hid (RDiskAt wr b F T fv nv lv ov (.slice pa S.plan.length pc)) ∧ Hid (Wr F w wr) ∧ Hid (∀ i q, i < j → S.plan[i]? = some q → q.1 ≠ (S.steps : Int) + 1)) (fun i _ => S.plan.length - (intOf i).toNat)
  case atStart => exact ⟨0, Nat.zero_le _, rfl, HU.out.1, HU.out.2, fun i q hi => by omega⟩
  case round =>
    obtain ⟨j, hj, rfl, hd, hw, hno⟩ := hrel
    obtain ⟨wk, hwk⟩ : ∃ wk, wk = wr := ⟨_, rfl⟩
    subst hwk
    obtain ⟨-, -, -, -, q4, q5, q6⟩ := hd.out.cells
    rw [HTs.out] at q5
    have d4 : ∀ n, (wk.drewN n).cell? ⟨b, 4, none⟩ = some (.slice pa S.plan.length pc) := fun n => q4
    have d5 : ∀ n, (wk.drewN n).cell? ⟨b, 5, none⟩ = some (.int .i64 ((S.steps : Int) + 1)) := fun n => q5
    have g6 := hd.out.free 6
    by_cases hjl : j < S.plan.length
    · obtain ⟨p, hpj⟩ : ∃ p, S.plan[j]? = some p := ⟨_, List.getElem?_eq_getElem hjl⟩
      obtain ⟨g, off, rfl, hgF, hg, p0, p1, p2⟩ := hd.out.plan.at_ (by rw [HTp.out]; exact hpj)
      have e0 : ∀ n, (wk.drewN n).cell? ⟨g, off + j * 3, none⟩ = some (.int .i64 p.1) := fun n => p0
      have e1 : ∀ n, (wk.drewN n).cell? ⟨g, off + j * 3 + 1, none⟩ = some (.int .i64 p.2.1) := fun n => p1
      have e2 : ∀ n, (wk.drewN n).cell? ⟨g, off + j * 3 + 2, none⟩ = some (.int .i64 p.2.2) := fun n => p2
      have hjI : (j : Int) < (S.plan.length : Int) := by omega
      have hj0 : (0 : Int) ≤ (j : Int) := by omega
      have hkp := HK.out p (List.mem_of_getElem? hpj)
      have HPJ := Lib.hid hpj
      have g6' : ∀ n, (wk.drewN n).frozen? ⟨b, 6, none⟩ = false := fun n => g6
      have q6' : ∀ n, (wk.drewN n).cell? ⟨b, 6, none⟩ = some (.bool T.down) := fun n => q6
      clear hpj q5 p0 p1 p2 g6 q6
      by_cases he : p.1 = (S.steps : Int) + 1
      · have HH := Lib.hid (show S.hit = some p from find_at HPJ.out he hno.out)
        have he1 : (p.1 == (S.steps : Int) + 1) = true := by rw [he]; exact beq_self_eq_true _
        have HD := Lib.hid (fun n => hd.out.below (below_drewN (Below.refl wk.heap.size wk) n))
        by_cases h1 : p.2.1 = 1
        · have b1 : (p.2.1 == 1) = true := by rw [h1]; rfl
          have HV := Lib.hid (show S.faultE = 52 ∧ S.faultN = 0 ∧ S.faultS = T from by
            refine ⟨by unfold Dk.faultE; rw [HH.out]; simp only; rw [if_neg (by omega)], by unfold Dk.faultN; rw [HH.out]; simp only; rw [if_neg (by omega)], ?_⟩
            rw [← HT.out]; unfold Dk.faultS; rw [HH.out]; simp [h1])
          clear h1 he hkp
          go_wp2_with fail
          go_quiet (fail)
          go_wp2
          go_ret2
          exact ⟨by rw [HV.out.1, HV.out.2.1]; rfl, by rw [HV.out.2.2]; exact (HD.out _).disk, hw.out.drewN _⟩
        by_cases h2 : p.2.1 = 2
        · have b1 : (p.2.1 == 1) = false := by rw [h2]; rfl
          have b2 : (p.2.1 == 2) = true := by rw [h2]; rfl
          have HV := Lib.hid (show S.faultE = 52 ∧ S.faultN = p.2.2 ∧ S.faultS = T from by
            refine ⟨by unfold Dk.faultE; rw [HH.out]; simp only; rw [if_neg (by omega)], by unfold Dk.faultN; rw [HH.out]; simp only; rw [if_pos h2], ?_⟩
            rw [← HT.out]; unfold Dk.faultS; rw [HH.out]; simp [h2])
          clear h1 h2 he hkp
          go_wp2_with fail
          go_quiet (fail)
          go_wp2_with fail
          go_quiet (fail)
          go_wp2
          go_ret2
          exact ⟨by rw [HV.out.1, HV.out.2.1]; rfl, by rw [HV.out.2.2]; exact ((HD.out _).below (below_drewN (Below.refl _ _) _)).disk, (hw.out.drewN _).drewN _⟩
        · have h3 : p.2.1 = 3 := by omega
          have b1 : (p.2.1 == 1) = false := by rw [h3]; rfl
          have b2 : (p.2.1 == 2) = false := by rw [h3]; rfl
          have HV := Lib.hid (show S.faultE = 53 ∧ S.faultN = 0 ∧ S.faultS = { T with down := true } from by
            refine ⟨by unfold Dk.faultE; rw [HH.out]; simp only; rw [if_pos h3], by unfold Dk.faultN; rw [HH.out]; simp only; rw [if_neg (by omega)], ?_⟩
            rw [← HT.out]; unfold Dk.faultS; rw [HH.out]; simp [h3])
          clear h1 h2 h3 he hkp
          go_wp2_with fail
          go_quiet (fail)
          go_wp2
          go_ret2
          refine ⟨by rw [HV.out.1, HV.out.2.1]; rfl, ?_, (hw.out.drewN _).setCell (p := ⟨b, 6, none⟩) H.out.own _⟩
          rw [HV.out.2.2]
          exact RDiskAt.disk ((HD.out _).upd rfl rfl rfl rfl rfl (heap_setCell_same (HD.out _).block) (fun k hk => Below.heap_setCell _ _ _ _ hk) (heap_setCell_size _ _ _))
      · have he1 : (p.1 == (S.steps : Int) + 1) = false := by rw [beq_eq_false_iff_ne]; exact he
        have HE := Lib.hid he
        clear he hkp
        go_wp2_with fail
        go_quiet (fail)
        go_wp2
        go_roundw
        case rel => exact ⟨j + 1, by omega, by go_num, hd.out.below (below_drewN (Below.refl _ _) _), hw.out.drewN _, fun i q hi hq => by
          by_cases e : i = j
          · subst e; rw [HPJ.out] at hq; cases hq; exact HE.out
          · exact hno.out i q (by omega) hq⟩
        case measure => simp [intOf]; omega
    · obtain rfl : j = S.plan.length := by omega
      have HH := Lib.hid (show S.hit = none from find_none_take fun i q hq => hno.out i q (List.getElem?_eq_some_iff.1 hq).1 hq)
      have HV := Lib.hid (show S.faultE = 0 ∧ S.faultN = 0 ∧ S.faultS = T from by
        refine ⟨by unfold Dk.faultE; rw [HH.out], by unfold Dk.faultN; rw [HH.out], ?_⟩
        rw [← HT.out]; unfold Dk.faultS; rw [HH.out]; simp)
      go_wp2
      go_ret2
      exact ⟨by rw [HV.out.1, HV.out.2.1]; rfl, by rw [HV.out.2.2]; exact hd.out.disk, hw.out⟩
/-- What asked tells: the file, the error. -/
def RAskEnd (S : Dk) (n : Tx) (w : World) (e : Ending) (w' : World) : Prop := e = .returned (.tuple #[.int .i64 (if S.askE n = 0 then (S.fileOf n : Int) else -1), .int .i64 (S.askE n)]) ∧ w = w'
theorem refAsked_any {w : World} {b : Nat} {F : Nat → Prop} {S : Dk} (h : RDisk w b F S) (hl : S.names.length ≤ 4194304) (n : Tx) :
    Calls Try.prog 55 #[.pointer (some ⟨b, 0, none⟩), .string (str n)] w (RAskEnd S n w) := by
  obtain ⟨fv, nv, lv, ov, pv, h⟩ := h
  obtain ⟨-, c1, -, -, -, -, c6⟩ := h.cells
  have HF := Lib.hid (refFind_any h.names hl n)
  cases hd : S.down with
  | true =>
    rw [hd] at c6
    have HA := Lib.hid (show S.askE n = 53 from by unfold Dk.askE; rw [if_pos hd])
    clear hd h
    go_enter Try.func55, Try.ntmps55
    go_wp2
    go_ret2
    exact ⟨by rw [HA.out]; rfl, rfl⟩
  | false =>
    rw [hd] at c6
    by_cases hn : n = []
    · have hb : ((str n).toList == ([] : List UInt8)) = true := by rw [str_none, decide_eq_true hn]
      have HA := Lib.hid (show S.askE n = 1 from by unfold Dk.askE; rw [if_neg (by simp [hd]), if_pos hn])
      clear hd h hn
      go_enter Try.func55, Try.ntmps55
      go_wp2
      go_ret2
      exact ⟨by rw [HA.out]; rfl, rfl⟩
    · have hb : ((str n).toList == ([] : List UInt8)) = false := by rw [str_none, decide_eq_false hn]
      cases hf : find S.names n with
      | none =>
        rw [hf] at HF
        have HA := Lib.hid (show S.askE n = 50 from by unfold Dk.askE; rw [if_neg (by simp [hd]), if_neg hn, hf])
        clear hd h hn hf
        go_enter Try.func55, Try.ntmps55
        go_wp2_with fail
        ((refine HF.out.mono ?_); rintro e w1 ⟨rfl, rfl⟩)
        have hm : (foundV none) = -1 := rfl
        rw [hm]
        go_wp2
        go_ret2
        exact ⟨by rw [HA.out]; rfl, rfl⟩
      | some f =>
        rw [hf] at HF
        have HA := Lib.hid (show S.askE n = 0 ∧ S.fileOf n = f from ⟨by unfold Dk.askE; rw [if_neg (by simp [hd]), if_neg hn, hf], by unfold Dk.fileOf; rw [hf]; rfl⟩)
        clear hd h hn hf
        go_enter Try.func55, Try.ntmps55
        go_wp2_with fail
        ((refine HF.out.mono ?_); rintro e w1 ⟨rfl, rfl⟩)
        have hm : (foundV (some f)) = (f : Int) := rfl
        have hf0 : ¬ (f : Int) < 0 := by omega
        rw [hm]
        go_wp2
        go_ret2
        exact ⟨by rw [HA.out.1, HA.out.2]; rfl, rfl⟩
end Go.Proofs.Ytbjlffhnkcbnmaa
