/- The disk of the program: bytes laid, cut off, made to last. -/
import Derived.Test.YtbjlffhnkcbnmaaDsk5
namespace Go.Proofs.Ytbjlffhnkcbnmaa
open Go.ChangeShapes Go.WideShapes Go.ChangeAt Go.RowKit Go.Maps
open Pl (Tx Fl Ch Nm Dk)
set_option linter.unusedVariables false

theorem str_append (a b : Tx) : str a ++ str b = str (a ++ b) := by
  apply ByteArray.ext
  apply Array.ext'
  simp [str]
theorem str_take (a : Tx) (n : Nat) (h : n ≤ a.length) : (str a).extract 0 n = str (a.take n) := by
  apply ByteArray.ext
  apply Array.ext'
  simp [str]
/-- The file that a name leads to. -/
theorem DiskAt.fileAt {w : World} {b : Nat} {F : Nat → Prop} {φ : Nat → Nat} {S : Dk} {nm lm : Nat} {ov pv : Value} (h : DiskAt w b F φ S nm lm ov pv) (hI : S.Inv) {n : Tx} (ha : S.askE n = 0) :
    ∃ f, S.files[S.fileOf n]? = some f ∧ w.heap[φ (S.fileOf n)]? = some (.cells #[strV f.text, .int .i64 f.sync] 79 (0, 0)) ∧ F (φ (S.fileOf n)) := by
  have hl := hI.fileLt ha
  obtain ⟨h1, h2⟩ := h.files _ _ (List.getElem?_eq_getElem hl)
  exact ⟨_, List.getElem?_eq_getElem hl, h1, h2⟩
/-- One cell of a file is written. -/
theorem Disk.setFile {w : World} {b : Nat} {F : Nat → Prop} {φ : Nat → Nat} {S : Dk} (h : Disk w b F φ S) {i : Nat} {f : Fl} (hf : S.files[i]? = some f) {k : Nat} {v : Value} (g : Fl → Fl)
    (hg : (#[strV f.text, .int .i64 f.sync] : Array Value).setIfInBounds k v = #[strV (g f).text, .int .i64 (g f).sync]) : Disk (w.setCell ⟨φ i, k, none⟩ v) b F φ (S.setF i g) ∧ Wr F w (w.setCell ⟨φ i, k, none⟩ v) := by
  obtain ⟨nm, lm, ov, pv, h⟩ := h
  obtain ⟨h1, h2⟩ := h.files i f hf
  refine ⟨DiskAt.disk (h.updF hf g ?_ (fun j hj => Below.heap_setCell _ _ _ _ hj) (heap_setCell_size _ _ _)), (Wr.refl F w).setCell (p := ⟨φ i, k, none⟩) h2 _⟩
  rw [heap_setCell_same h1, hg]
theorem Disk.fileAt {w : World} {b : Nat} {F : Nat → Prop} {φ : Nat → Nat} {S : Dk} (h : Disk w b F φ S) {i : Nat} {f : Fl} (hf : S.files[i]? = some f) :
    w.cell? ⟨φ i, 0, none⟩ = some (strV f.text) ∧ w.cell? ⟨φ i, 1, none⟩ = some (.int .i64 f.sync) ∧ (∀ k, w.frozen? ⟨φ i, k, none⟩ = false) ∧ φ i < w.heap.size ∧ F (φ i) := by
  obtain ⟨nm, lm, ov, pv, h⟩ := h
  obtain ⟨h1, h2⟩ := h.files i f hf
  refine ⟨by simp [World.cell?, h1], by simp [World.cell?, h1], fun k => by simp only [World.frozen?, h1]; simp, h.lt _ h2, h2⟩
/-- A reading: the bytes, or the error. -/
def ReadEnd (S : Dk) (n : Tx) (w : World) (e : Ending) (w' : World) : Prop := e = .returned (.tuple #[.string (str (S.readT n)), .int .i64 (S.askE n)]) ∧ w = w'
def SyncedEnd (S : Dk) (n : Tx) (w : World) (e : Ending) (w' : World) : Prop := e = .returned (.tuple #[.int .i64 (S.readN n), .int .i64 (S.askE n)]) ∧ w = w'
set_option maxRecDepth 100000 in
set_option maxHeartbeats 1600000 in
theorem read_any {w : World} {b : Nat} {F : Nat → Prop} {S : Dk} (h : Dsk w b F S) (hI : S.Inv) (n : Tx) (hn : n.length ≤ 140737488355328) :
    Calls Try.prog 14 #[.pointer (some ⟨b, 0, none⟩), .string (str n)] w (ReadEnd S n w) := by
  obtain ⟨φ, h⟩ := h
  have HFi := find_any h n hn
  unfold FoundEnd at HFi
  have H := Lib.hid h
  by_cases h0 : S.askE n = 0
  · rw [if_pos h0, h0] at HFi
    replace HFi := Lib.hid HFi
    have hl := hI.fileLt h0
    obtain ⟨f, hf⟩ : ∃ f, S.files[S.fileOf n]? = some f := ⟨_, List.getElem?_eq_getElem hl⟩
    obtain ⟨c0, c1, -, -, -⟩ := h.fileAt hf
    have HR := Lib.hid (show S.readT n = f.text ∧ S.askE n = 0 from ⟨by unfold Dk.readT; rw [if_pos h0, hf], h0⟩)
    unfold strV at c0
    clear h h0 hf hl
    go_enter Try.func14, Try.ntmps14
    go_wp2_with fail
    ((with_reducible refine HFi.out.mono ?_); rintro e w1 ⟨rfl, rfl⟩)
    go_wp2
    go_ret2
    exact ⟨by rw [HR.out.1, HR.out.2]; rfl, rfl⟩
  · skip
    rw [if_neg h0] at HFi
    obtain ⟨k, hk⟩ : ∃ k, S.askE n = k := ⟨_, rfl⟩
    rw [hk] at HFi h0
    replace HFi := Lib.hid HFi
    have b1 : ((k : Int) == 0) = false := by rw [beq_eq_false_iff_ne]; omega
    have HR := Lib.hid (show S.readT n = [] ∧ S.askE n = k from ⟨by unfold Dk.readT; rw [if_neg (by omega)], hk⟩)
    clear h h0 hk
    go_enter Try.func14, Try.ntmps14
    go_wp2_with fail
    ((with_reducible refine HFi.out.mono ?_); rintro e w1 ⟨rfl, rfl⟩)
    go_wp2
    go_ret2
    exact ⟨by rw [HR.out.1, HR.out.2]; rfl, rfl⟩
set_option maxRecDepth 100000 in
set_option maxHeartbeats 1600000 in
theorem synced_any {w : World} {b : Nat} {F : Nat → Prop} {S : Dk} (h : Dsk w b F S) (hI : S.Inv) (n : Tx) (hn : n.length ≤ 140737488355328) :
    Calls Try.prog 15 #[.pointer (some ⟨b, 0, none⟩), .string (str n)] w (SyncedEnd S n w) := by
  obtain ⟨φ, h⟩ := h
  have HFi := find_any h n hn
  unfold FoundEnd at HFi
  have H := Lib.hid h
  by_cases h0 : S.askE n = 0
  · rw [if_pos h0, h0] at HFi
    replace HFi := Lib.hid HFi
    have hl := hI.fileLt h0
    obtain ⟨f, hf⟩ : ∃ f, S.files[S.fileOf n]? = some f := ⟨_, List.getElem?_eq_getElem hl⟩
    obtain ⟨c0, c1, -, -, -⟩ := h.fileAt hf
    have HR := Lib.hid (show S.readN n = f.sync ∧ S.askE n = 0 from ⟨by unfold Dk.readN; rw [if_pos h0, hf], h0⟩)
    unfold strV at c0
    clear h h0 hf hl
    go_enter Try.func15, Try.ntmps15
    go_wp2_with fail
    ((with_reducible refine HFi.out.mono ?_); rintro e w1 ⟨rfl, rfl⟩)
    go_wp2
    go_ret2
    exact ⟨by rw [HR.out.1, HR.out.2]; rfl, rfl⟩
  · skip
    rw [if_neg h0] at HFi
    obtain ⟨k, hk⟩ : ∃ k, S.askE n = k := ⟨_, rfl⟩
    rw [hk] at HFi h0
    replace HFi := Lib.hid HFi
    have b1 : ((k : Int) == 0) = false := by rw [beq_eq_false_iff_ne]; omega
    have HR := Lib.hid (show S.readN n = 0 ∧ S.askE n = k from ⟨by unfold Dk.readN; rw [if_neg (by omega)], hk⟩)
    clear h h0 hk
    go_enter Try.func15, Try.ntmps15
    go_wp2_with fail
    ((with_reducible refine HFi.out.mono ?_); rintro e w1 ⟨rfl, rfl⟩)
    go_wp2
    go_ret2
    exact ⟨by rw [HR.out.1, HR.out.2]; rfl, rfl⟩
set_option maxRecDepth 100000 in
set_option maxHeartbeats 1600000 in
theorem sync_any {w : World} {b j : Nat} {F : Nat → Prop} {S : Dk} (h : Dsk w b F S) (hI : S.Inv) (hS : S.Small j) (hj : j ≤ 32768) (n : Tx) (hn : n.length ≤ 140737488355328) :
    Calls Try.prog 17 #[.pointer (some ⟨b, 0, none⟩), .string (str n)] w (OpEnd b F (S.syncS n) (.int .i64 (S.appendE n)) w) := by
  obtain ⟨φ, h⟩ := h
  have HFi := find_any h n hn
  unfold FoundEnd at HFi
  have H := Lib.hid h
  have HSt := step_any h (by have := hS.steps; omega) hS.plan
  unfold StepEnd at HSt
  obtain ⟨v0, hv0⟩ : ∃ v, hitV S = v := ⟨_, rfl⟩
  rw [hv0] at HSt
  by_cases h0 : S.askE n = 0
  · skip
    rw [if_pos h0, h0] at HFi
    replace HFi := Lib.hid HFi
    have hl := hI.fileLt h0
    obtain ⟨f, hf⟩ : ∃ f, S.files[S.fileOf n]? = some f := ⟨_, List.getElem?_eq_getElem hl⟩
    have HFL := Lib.hid (show S.faultS.files[S.fileOf n]? = some f from hf)
    obtain ⟨i, hi⟩ : ∃ i, S.fileOf n = i := ⟨_, rfl⟩
    rw [hi] at HFi HFL
    by_cases hfe : S.faultE = 0
    · rw [hfe] at HSt
      replace HSt := Lib.hid HSt
      have HR := Lib.hid (show S.appendE n = 0 ∧ S.syncS n = S.faultS.setF i (fun f => ⟨f.text, f.text.length⟩) from ⟨by unfold Dk.appendE; rw [if_neg (by omega), hfe], by unfold Dk.syncS; rw [if_neg (by omega), if_neg (by omega), hi]⟩)
      clear h h0 hf hl hi hfe hv0
      go_enter Try.func17, Try.ntmps17
      go_wp2_with fail
      ((with_reducible refine HFi.out.mono ?_); rintro e w1 ⟨rfl, rfl⟩)
      go_wp2_with fail
      ((with_reducible refine HSt.out.mono ?_); rintro e w2 ⟨rfl, d2, r2⟩)
      obtain ⟨c0, c1, c2, -, -⟩ := d2.fileAt HFL.out
      have HD2 := Lib.hid (And.intro d2 r2)
      unfold strV at c0
      have hsz := str_size f.text
      clear d2 r2
      go_wp2
      go_ret
      have P := HD2.out.1.setFile HFL.out (k := 1) (v := .int .i64 f.text.length) (fun f => ⟨f.text, f.text.length⟩) rfl
      exact ⟨by rw [HR.out.1]; rfl, by rw [HR.out.2]; exact Leaves.same P.1 (HD2.out.2.trans P.2 (Grew.refl _ _))⟩
    · obtain ⟨fe, hfe2⟩ : ∃ fe, S.faultE = fe := ⟨_, rfl⟩
      rw [hfe2] at hfe HSt
      replace HSt := Lib.hid HSt
      have HR := Lib.hid (show S.appendE n = fe ∧ S.syncS n = S.faultS from ⟨by unfold Dk.appendE; rw [if_neg (by omega), hfe2], by unfold Dk.syncS; rw [if_neg (by omega), if_pos (by omega)]⟩)
      have b1 : ((fe : Int) == 0) = false := by rw [beq_eq_false_iff_ne]; omega
      clear h h0 hf hl hi hfe hfe2 hv0
      go_enter Try.func17, Try.ntmps17
      go_wp2_with fail
      ((with_reducible refine HFi.out.mono ?_); rintro e w1 ⟨rfl, rfl⟩)
      go_wp2_with fail
      ((with_reducible refine HSt.out.mono ?_); rintro e w2 ⟨rfl, d2, r2⟩)
      have HD2 := Lib.hid (And.intro d2 r2)
      clear d2 r2
      go_wp2
      go_ret
      exact ⟨by rw [HR.out.1]; rfl, by rw [HR.out.2]; exact Leaves.same HD2.out.1 HD2.out.2⟩
  · skip
    rw [if_neg h0] at HFi
    obtain ⟨k, hk⟩ : ∃ k, S.askE n = k := ⟨_, rfl⟩
    rw [hk] at HFi h0
    replace HFi := Lib.hid HFi
    have b1 : ((k : Int) == 0) = false := by rw [beq_eq_false_iff_ne]; omega
    have HR := Lib.hid (show S.appendE n = k ∧ S.syncS n = S from ⟨by unfold Dk.appendE; rw [if_pos (by omega), hk], by unfold Dk.syncS; rw [if_pos (by omega)]⟩)
    clear h h0 hk HSt hv0
    go_enter Try.func17, Try.ntmps17
    go_wp2_with fail
    ((with_reducible refine HFi.out.mono ?_); rintro e w1 ⟨rfl, rfl⟩)
    go_wp2
    go_ret
    exact ⟨by rw [HR.out.1]; rfl, by rw [HR.out.2]; exact Leaves.same H.out (Wr.refl _ _)⟩
end Go.Proofs.Ytbjlffhnkcbnmaa
