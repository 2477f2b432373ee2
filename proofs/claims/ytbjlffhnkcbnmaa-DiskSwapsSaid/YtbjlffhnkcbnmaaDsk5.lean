/- The disk of the program: what is done with a name. -/
import Derived.Test.YtbjlffhnkcbnmaaDsk4
namespace Go.Proofs.Ytbjlffhnkcbnmaa
open Go.ChangeShapes Go.WideShapes Go.ChangeAt Go.RowKit Go.Maps
open Pl (Tx Fl Ch Nm Dk)
set_option linter.unusedVariables false

/-- The program's disk stands, wherever its files lie. -/
def Dsk (w : World) (b : Nat) (F : Nat → Prop) (S : Dk) : Prop := ∃ φ, Disk w b F φ S
/-- What a call leaves. -/
def Leaves (b : Nat) (F : Nat → Prop) (T : Dk) (w w' : World) : Prop := ∃ F', Dsk w' b F' T ∧ Grew w F F' ∧ Wr F w w'
def OpEnd (b : Nat) (F : Nat → Prop) (T : Dk) (v : Value) (w : World) (e : Ending) (w' : World) : Prop := e = .returned v ∧ Leaves b F T w w'
theorem Leaves.same {b : Nat} {F : Nat → Prop} {φ : Nat → Nat} {T : Dk} {w w' : World} (h : Disk w' b F φ T) (hw : Wr F w w') : Leaves b F T w w' := ⟨F, ⟨φ, h⟩, Grew.refl _ _, hw⟩
/-- A new file was laid. -/
theorem DiskAt.newFile {w : World} {b : Nat} {F : Nat → Prop} {φ : Nat → Nat} {S : Dk} {nm lm : Nat} {ov pv : Value} (h : DiskAt w b F φ S nm lm ov pv) (hI : S.Inv) :
    DiskAt (w.alloc (.cells #[.string ⟨#[]⟩, .int .i64 0] 79)) b (fun k => F k ∨ k = w.heap.size) (fun i => if i = S.files.length then w.heap.size else φ i) { S with files := S.files ++ [⟨[], 0⟩] } nm lm ov pv := by
  have h' := h.alloc (.cells #[.string ⟨#[]⟩, .int .i64 0] 79)
  have hφ : ∀ i, i < S.files.length → (if i = S.files.length then w.heap.size else φ i) = φ i := fun i hi => if_neg (by omega)
  have hop : S.opn.flatMap (chCells (fun i => if i = S.files.length then w.heap.size else φ i)) = S.opn.flatMap (chCells φ) := by
    simp only [List.flatMap]
    congr 1
    refine List.map_congr_left fun c hc => ?_
    unfold chCells
    split
    next hk => dsimp only; rw [hφ _ (hI.snd.files c hc hk)]
    · rfl
  refine { lt := fun k hk => ?_, own := .inl h.own, ownN := .inl h.ownN, ownL := .inl h.ownL, ne := h.ne, block := h'.block, names := h'.names.turn fun p hp => hφ _ (hI.good.lt p hp), last := h'.last.turn fun p hp => hφ _ (hI.last.lt p hp), files := ?_, inj := ?_, opn := ?_, plan := h'.plan.mono fun k hk => .inl hk }
  · rcases hk with hk | rfl
    · exact h'.lt k hk
    · simp
  · intro i f hf
    by_cases hi : i = S.files.length
    · subst hi
      simp at hf
      subst hf
      refine ⟨?_, .inr (if_pos rfl)⟩
      rw [if_pos rfl]
      exact heap_alloc_new w _
    · have hi2 : i < S.files.length := by
        have := (List.getElem?_eq_some_iff.1 hf).1
        simp at this; omega
      rw [List.getElem?_append_left hi2] at hf
      obtain ⟨f1, f2⟩ := h'.files i f hf
      rw [if_neg hi]
      exact ⟨f1, .inl f2⟩
  · intro i j hi hj e
    simp at hi hj
    have hlt : ∀ k, k < S.files.length → φ k < w.heap.size := fun k hk => by
      obtain ⟨f1, f2⟩ := h.files k _ (List.getElem?_eq_getElem hk)
      exact h.lt _ f2
    by_cases h1 : i = S.files.length <;> by_cases h2 : j = S.files.length
    · omega
    · simp only [h1, if_true, if_neg h2] at e
      have := hlt j (by omega); omega
    · simp only [h2, if_true, if_neg h1] at e
      have := hlt i (by omega); omega
    · simp only [if_neg h1, if_neg h2] at e
      exact h.inj i j (by omega) (by omega) e
  · have := h'.opn.mono (G := fun k => F k ∨ k = w.heap.size) fun k hk => .inl hk
    rw [hop]; exact this
set_option maxRecDepth 100000 in
set_option maxHeartbeats 1600000 in
theorem create_any {w : World} {b j : Nat} {F : Nat → Prop} {S : Dk} (h : Dsk w b F S) (hI : S.Inv) (hS : S.Small j) (hj : j ≤ 32768) (n : Tx) (hn : n.length ≤ 140737488355328) :
    Calls Try.prog 26 #[.pointer (some ⟨b, 0, none⟩), .string (str n)] w (OpEnd b F (S.createS n) (.int .i64 (S.createE n)) w) := by
  obtain ⟨φ, h⟩ := h
  have HFi := find_any h n hn
  unfold FoundEnd at HFi
  have H := Lib.hid h
  have HSt := Lib.hid (step_any h (by have := hS.steps; omega) hS.plan)
  clear h
  by_cases h0 : S.askE n = 0
  · rw [if_pos h0, h0] at HFi
    replace HFi := Lib.hid HFi
    have HR := Lib.hid (show S.createE n = 51 ∧ S.createS n = S from ⟨by unfold Dk.createE; rw [if_pos h0], by unfold Dk.createS; rw [if_pos (by omega)]⟩)
    clear h0
    go_enter Try.func26, Try.ntmps26
    go_wp2_with fail
    ((with_reducible refine HFi.out.mono ?_); rintro e w1 ⟨rfl, rfl⟩)
    go_wp2
    go_ret
    exact ⟨by rw [HR.out.1]; rfl, by rw [HR.out.2]; exact Leaves.same H.out (Wr.refl _ _)⟩
  by_cases h5 : S.askE n = 50
  · rw [if_neg h0, h5] at HFi
    replace HFi := Lib.hid HFi
    obtain ⟨v0, hv0⟩ : ∃ v, hitV S = v := ⟨_, rfl⟩
    unfold StepEnd at HSt
    rw [hv0] at HSt
    by_cases hf : S.faultE = 0
    · rw [hf] at HSt
      have HR := Lib.hid (show S.createE n = 0 ∧ S.createS n = Dk.turn { S.faultS with files := S.files ++ [⟨[], 0⟩] } ⟨1, n, [], S.files.length⟩ from ⟨by unfold Dk.createE; rw [if_neg (by omega), if_neg (by omega), hf], by unfold Dk.createS; rw [if_neg (by omega), if_neg (by omega)]⟩)
      have HN := Lib.hid (Pl.askE_new h5)
      clear h0 h5 hf hv0
      go_enter Try.func26, Try.ntmps26
      go_wp2_with fail
      ((with_reducible refine HFi.out.mono ?_); rintro e w1 ⟨rfl, rfl⟩)
      go_wp2_with fail
      ((with_reducible refine HSt.out.mono ?_); rintro e w2 ⟨rfl, d2, r2⟩)
      have HD2 := Lib.hid (And.intro d2 r2)
      obtain ⟨nm, lm, ov, pv, d3⟩ := d2
      have HD3 := Lib.hid (d3.newFile hI.fault)
      have hT := turn_any HD3.out.disk (N := S.files.length + 1) (c := ⟨1, n, [], S.files.length⟩) (by
        have := hI.good
        exact ⟨this.ris, this.inj, fun p hp => by have := this.lt p hp; omega⟩) (by have := hS.files; omega) (.inl ⟨rfl, by simp, HN.out.2.1, fun hm => by
        obtain ⟨p, hp, e⟩ := List.mem_map.1 hm
        have := hI.good.lt p hp
        simp only at e; omega⟩) ⟨hn, by simp⟩ (by have := hS.opn; show S.opn.length ≤ _; omega)
      rw [show (chCells (fun i => if i = S.faultS.files.length then w2.heap.size else φ i) ⟨1, n, [], S.files.length⟩) = [.bool true, .string ⟨#[]⟩, .string (str n), .pointer (some ⟨w2.heap.size, 0, none⟩)] by
        unfold chCells; rw [if_pos rfl]; dsimp only; rw [if_pos (show S.files.length = S.faultS.files.length from rfl)]; rfl] at hT
      replace hT : Calls Try.prog 49 #[.pointer (some ⟨b, 0, none⟩), .agg #[.bool true, .string ⟨#[]⟩, .string (str n), .pointer (some ⟨w2.heap.size, 0, none⟩)]] _ _ := hT
      have HT := Lib.hid hT
      clear r2 d3 hT
      go_wp2_with fail
      (refine HT.out.mono ?_; rintro e w4 ⟨rfl, F', d4, g4, r4⟩)
      have H4 := Lib.hid (show Leaves b F (S.createS n) w w4 from by
        rw [HR.out.2]
        refine ⟨F', ⟨_, d4⟩, fun k hk => ?_, ?_⟩
        · have := HD2.out.2.size
          rcases g4 k hk with (h1 | h1) | h1
          · exact .inl h1
          · exact .inr (by omega)
          · simp at h1; exact .inr (by omega)
        · refine HD2.out.2.trans (((Wr.refl F w2).alloc _).trans r4 fun k hk => hk.imp id (fun e => by rw [e]; exact Nat.le_refl _)) (Grew.refl _ _))
      clear d4 g4 r4
      go_wp2
      go_ret
      exact ⟨by rw [HR.out.1]; rfl, H4.out⟩
    · obtain ⟨fe, hfe⟩ : ∃ fe, S.faultE = fe := ⟨_, rfl⟩
      rw [hfe] at hf HSt
      have HR := Lib.hid (show S.createE n = fe ∧ S.createS n = S.faultS from ⟨by unfold Dk.createE; rw [if_neg (by omega), if_neg (by omega), hfe], by unfold Dk.createS; rw [if_neg (by omega), if_pos (by omega)]⟩)
      have b1 : ((fe : Int) == 0) = false := by rw [beq_eq_false_iff_ne]; omega
      clear h0 h5 hf hv0 hfe
      go_enter Try.func26, Try.ntmps26
      go_wp2_with fail
      ((with_reducible refine HFi.out.mono ?_); rintro e w1 ⟨rfl, rfl⟩)
      go_wp2_with fail
      ((with_reducible refine HSt.out.mono ?_); rintro e w2 ⟨rfl, d2, r2⟩)
      have HD2 := Lib.hid (And.intro d2 r2)
      clear d2 r2
      go_wp2
      go_ret
      exact ⟨by rw [HR.out.1]; rfl, by rw [HR.out.2]; exact Leaves.same HD2.out.1 HD2.out.2⟩
  · rw [if_neg h0] at HFi
    obtain ⟨k, hk⟩ : ∃ k, S.askE n = k := ⟨_, rfl⟩
    rw [hk] at HFi h0 h5
    replace HFi := Lib.hid HFi
    have HR := Lib.hid (show S.createE n = k ∧ S.createS n = S from ⟨by unfold Dk.createE; rw [if_neg (by omega), if_pos (by omega), hk], by unfold Dk.createS; rw [if_pos (by omega)]⟩)
    have b1 : ((k : Int) == 0) = false := by rw [beq_eq_false_iff_ne]; omega
    have b2 : ((k : Int) == 50) = false := by rw [beq_eq_false_iff_ne]; omega
    clear h0 h5 hk
    go_enter Try.func26, Try.ntmps26
    go_wp2_with fail
    ((with_reducible refine HFi.out.mono ?_); rintro e w1 ⟨rfl, rfl⟩)
    go_wp2
    go_ret
    exact ⟨by rw [HR.out.1]; rfl, by rw [HR.out.2]; exact Leaves.same H.out (Wr.refl _ _)⟩
end Go.Proofs.Ytbjlffhnkcbnmaa
