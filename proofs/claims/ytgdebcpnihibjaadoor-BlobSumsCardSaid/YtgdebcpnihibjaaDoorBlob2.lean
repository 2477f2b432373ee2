/- The walks of longer and of both Splice. -/
import Derived.Test.YtgdebcpnihibjaaDoorBlobRow
import Derived.Test.YtgdebcpnihibjaaDoorPlainBlob
namespace Go.Proofs.YtgdebcpnihibjaaDoor
open Go.ChangeShapes Go.WideShapes Go.ChangeAt Go.RowKit
set_option linter.unusedVariables false

def lenV : Value → Nat
  | .slice _ n _ => n
  | _ => 0
def LongEnd (s : ByteArray) (n : Nat) (w : World) (e : Ending) (w' : World) : Prop :=
  ∃ g cap, e = .returned (.slice (some ⟨g, 0, none⟩) (max s.size n) cap) ∧ w.heap.size ≤ g ∧ BRow w' g (max s.size n) (byteAt s) ∧ Below w.heap.size w w'
theorem byteAt_out {s : ByteArray} {i : Nat} (h : s.size ≤ i) : byteAt s i = 0 := by
  unfold byteAt
  rw [List.getD_eq_getElem?_getD, List.getElem?_eq_none (by simpa using h)]; rfl
theorem longer_any (s : ByteArray) (hs : s.size ≤ 140737488351232) (n : Nat) (hn : n ≤ 1099511627776) (w : World) :
    Calls Tryd.prog 32 #[.string s, .int .i64 n] w (LongEnd s n w) := by
  obtain ⟨ao, cap0, w0, hcv, hz0, hb0⟩ := bz_of_text (P := Tryd.prog) w 9 54 5 s Tryd.underlying9 Tryd.underlying54 Tryd.underlying5
  go_enter Tryd.func32, Tryd.ntmps32
  go_wp2_with fail
  clear hcv
  go_loopw [5] (fun v wr => ∃ k : Nat, BZ w.heap.size wr v k (byteAt s) ∧ s.size ≤ k ∧ k ≤ max s.size n ∧ Below w.heap.size w wr) (fun v _ => n - lenV v)
  case atStart => exact ⟨s.size, hz0, Nat.le_refl _, by omega, hb0⟩
  case round =>
    obtain ⟨k, hz, hk1, hk2, hb⟩ := hrel
    obtain ⟨g, cap, rfl, hg, hrow⟩ := hz.brow
    by_cases hlt : k < n
    · go_wp2_with (at_builtin; refine wpList_append_bz _ rfl _ _ 54 Tryd.underlying54 rfl _ k _ rfl hz hb.size 0 rfl (by omega) ?_; intro v' w1 hz1 hbl)
      obtain ⟨g1, cap1, rfl, hg1, _⟩ := hz1.brow
      refine ⟨⟨k + 1, hz1.congr fun i hi => ?_, by omega, by omega, hbl _ hb⟩, ?_⟩
      · by_cases e : i = k
        · rw [if_pos e, byteAt_out (by omega)]
        · rw [if_neg e]
      · simp [lenV]; omega
    · go_wp2
      go_ret
      obtain rfl : k = max s.size n := by omega
      exact ⟨g, cap, rfl, hg, hrow, hb⟩

theorem pos_of_isEmpty {t : ByteArray} (h : t.toList.isEmpty = false) : 0 < t.size := by
  rcases Nat.eq_zero_or_pos t.size with e | e
  · have e2 : t.toList = [] := by
      rw [ByteArray.toList_eq]
      exact List.eq_nil_of_length_eq_zero (by simpa using e)
    rw [e2] at h; simp at h
  · exact e
theorem isEmpty_of_pos {t : ByteArray} (h : 0 < t.size) : t.toList.isEmpty = false := by
  rw [ByteArray.toList_eq]
  cases hl : t.data.toList with
  | nil =>
    have e : t.data.toList.length = 0 := by rw [hl]; rfl
    rw [len_toList] at e
    omega
  | cons a l => rfl
theorem splice_neg (s t : ByteArray) (a : Int) (h : a < 0) (w : World) :
    Calls Tryd.prog 15 #[.string s, .int .i64 a, .string t] w fun e w' => e = .returned (.tuple #[.string (str []), .int .i64 1]) ∧ w = w' := by
  go_enter Tryd.func15, Tryd.ntmps15
  go_wp2
  go_ret2
  exact ⟨rfl, rfl⟩
theorem splice_none (s : ByteArray) (a : Int) (h : 0 ≤ a) (w : World) :
    Calls Tryd.prog 15 #[.string s, .int .i64 a, .string (str [])] w fun e w' => e = .returned (.tuple #[.string s, .int .i64 0]) ∧ w = w' := by
  unfold str
  go_enter Tryd.func15, Tryd.ntmps15
  go_wp2
  go_ret2
  exact ⟨rfl, rfl⟩
theorem splice_long (s t : ByteArray) (a : Int) (h : 0 ≤ a) (ht : t.toList.isEmpty = false) (hs : t.size ≤ 140737488351232) (hl : 1048576 < a ∨ 1048576 - a < t.size) (w : World) :
    Calls Tryd.prog 15 #[.string s, .int .i64 a, .string t] w fun e w' => e = .returned (.tuple #[.string (str []), .int .i64 81]) ∧ w = w' := by
  by_cases hl2 : 1048576 < a
  · go_enter Tryd.func15, Tryd.ntmps15
    go_wp2
    go_ret2
    exact ⟨rfl, rfl⟩
  · have hl3 := hl.resolve_left hl2
    go_enter Tryd.func15, Tryd.ntmps15
    go_wp2
    go_ret2
    exact ⟨rfl, rfl⟩

theorem refSplice_neg (s t : ByteArray) (a : Int) (h : a < 0) (w : World) :
    Calls Tryd.prog 16 #[.string s, .int .i64 a, .string t] w fun e w' => e = .returned (.tuple #[.string (str []), .int .i64 1]) ∧ w = w' := by
  go_enter Tryd.func16, Tryd.ntmps16
  go_wp2
  go_ret2
  exact ⟨rfl, rfl⟩
theorem refSplice_none (s : ByteArray) (a : Int) (h : 0 ≤ a) (w : World) :
    Calls Tryd.prog 16 #[.string s, .int .i64 a, .string (str [])] w fun e w' => e = .returned (.tuple #[.string s, .int .i64 0]) ∧ w = w' := by
  unfold str
  go_enter Tryd.func16, Tryd.ntmps16
  go_wp2
  go_ret2
  exact ⟨rfl, rfl⟩
theorem refSplice_long (s t : ByteArray) (a : Int) (h : 0 ≤ a) (ht : t.toList.isEmpty = false) (hs : t.size ≤ 140737488351232) (hl : 1048576 < a ∨ 1048576 - a < t.size) (w : World) :
    Calls Tryd.prog 16 #[.string s, .int .i64 a, .string t] w fun e w' => e = .returned (.tuple #[.string (str []), .int .i64 81]) ∧ w = w' := by
  by_cases hl2 : 1048576 < a
  · go_enter Tryd.func16, Tryd.ntmps16
    go_wp2
    go_ret2
    exact ⟨rfl, rfl⟩
  · have hl3 := hl.resolve_left hl2
    go_enter Tryd.func16, Tryd.ntmps16
    go_wp2
    go_ret2
    exact ⟨rfl, rfl⟩

theorem lay_row {s t : ByteArray} {a n : Nat} (h : max s.size (a + t.size) = n) : (List.range n).map (layO (layO (fun _ => 0) 0 s.data.toList) a t.data.toList) = Pl.layL s.data.toList a t.data.toList := by
  unfold Pl.layL
  rw [len_toList, len_toList, h]
  refine Pl.row_congr fun i _ => ?_
  unfold Pl.layF
  simp only [layO.eq_1 _ a]
  split
  · rfl
  · rw [layO_zero]; rfl
set_option maxRecDepth 100000 in
theorem splice_ok (s t : ByteArray) (a : Nat) (ht : t.toList.isEmpty = false) (hs : s.size ≤ 140737488351232) (hl : a + t.size ≤ 1048576) (w : World) :
    Calls Tryd.prog 15 #[.string s, .int .i64 a, .string t] w fun e w' => e = .returned (.tuple #[.string (str (Pl.layL s.data.toList a t.data.toList)), .int .i64 0]) ∧ Below w.heap.size w w' := by
  have ht1 := pos_of_isEmpty ht
  obtain ⟨n, hn⟩ : ∃ n, max s.size (a + t.size) = n := ⟨_, rfl⟩
  have hm1 : s.size ≤ n := by omega
  have hm2 : a + t.size ≤ n := by omega
  have hm3 : n ≤ s.size ∨ n ≤ a + t.size := by omega
  have HN := Lib.hid hn
  clear hn
  go_enter Tryd.func15, Tryd.ntmps15
  go_wp2_with (first
    | (refine wpList_make_bytes rfl (.tmp 32) (.tmp 32) _ rfl Tryd.underlying54 _ _ _ rfl rfl n ?_ ?_ ?_; (omega); (omega); intro w1 hr1 hz1 hb1)
    | (refine wpList_copy_text rfl (.tmp 34) (.tmp 35) _ _ rfl _ Tryd.underlying54 u8size _ _ _ _ n s _ hr1 rfl rfl ?_ ?_ ?_; (omega); (omega); intro w2 hr2 hz2 hb2)
    | (refine wpList_copy_text rfl (.tmp 39) (.tmp 40) _ _ rfl _ Tryd.underlying54 u8size _ _ _ _ n t _ hr2 rfl rfl ?_ ?_ ?_; (omega); (omega); intro w3 hr3 hz3 hb3; have hcv := hr3.string (P := Tryd.prog) 54 5 Tryd.underlying54 Tryd.underlying5 n Tryd.underlying9; rw [lay_row HN.out] at hcv))
  all_goals
    go_ret2
    exact ⟨rfl, hb3 _ _ (hb2 _ _ (hb1 _ _ (Below.refl _ _) (Nat.le_refl _)) (Nat.le_refl _)) (Nat.le_refl _)⟩

theorem lay_row2 {s t : ByteArray} {a n : Nat} (h : max s.size (a + t.size) = n) : (List.range n).map (layO (byteAt s) a t.data.toList) = Pl.layL s.data.toList a t.data.toList := by
  unfold Pl.layL
  rw [len_toList, len_toList, h]
  rfl
def LayRow (s t : ByteArray) (a n g : Nat) (wr : World) (j : Nat) : Prop := BRow wr g n (layO (byteAt s) a (t.data.toList.take j))
theorem LayRow.step {s t : ByteArray} {a n g : Nat} {wr : World} {j : Nat} (h : LayRow s t a n g wr j) (hj : j < t.size) : LayRow s t a n g (wr.setCell ⟨g, a + j, none⟩ (.int .u8 (t[j].toNat : Int))) (j + 1) := by
  refine BRow.congr (BRow.set h (a + j) t[j]) fun i _ => ?_
  have hl : (t.data.toList.take (j + 1)).length = j + 1 := by rw [List.length_take, len_toList]; omega
  have hl0 : (t.data.toList.take j).length = j := by rw [List.length_take, len_toList]; omega
  unfold layO
  rw [hl, hl0]
  by_cases e : i = a + j
  · subst e
    rw [if_pos rfl, if_pos (by omega), show a + j - a = j by omega, Pl.take_getD, if_pos (by omega), List.getD_eq_getElem?_getD, List.getElem?_eq_getElem (by rw [len_toList]; exact hj)]
    rfl
  · rw [if_neg e]
    by_cases h2 : a ≤ i ∧ i < a + j
    · rw [if_pos h2, if_pos (by omega), Pl.take_getD, if_pos (by omega), Pl.take_getD, if_pos (by omega)]
    · rw [if_neg h2, if_neg (by omega)]
set_option maxRecDepth 100000 in
theorem refSplice_ok (s t : ByteArray) (a : Nat) (ht : t.toList.isEmpty = false) (hs : s.size ≤ 140737488351232) (hl : a + t.size ≤ 1048576) (w : World) :
    Calls Tryd.prog 16 #[.string s, .int .i64 a, .string t] w fun e w' => e = .returned (.tuple #[.string (str (Pl.layL s.data.toList a t.data.toList)), .int .i64 0]) ∧ Below w.heap.size w w' := by
  have ht1 := pos_of_isEmpty ht
  have hlc : ∀ W, Calls Tryd.prog 32 #[.string s, .int .i64 ((a : Int) + (t.size : Int))] W (LongEnd s (a + t.size) W) := fun W => longer_any s hs (a + t.size) (by omega) W
  go_enter Tryd.func16, Tryd.ntmps16
  go_wp2_with fail
  ((with_reducible refine (hlc _).mono ?_); rintro e w1 ⟨g, cap, rfl, hg, hr, hb⟩)
  clear hlc
  obtain ⟨n, hn⟩ : ∃ n, max s.size (a + t.size) = n := ⟨_, rfl⟩
  rw [hn] at hr
  rw [hn]
  have hm1 : s.size ≤ n := by omega
  have hm2 : a + t.size ≤ n := by omega
  have HN := Lib.hid hn
  clear hn
  go_wp2_with fail
  go_loopw [9] (fun i wr => ∃ j : Nat, j ≤ t.size ∧ i = .int .i64 j ∧ LayRow s t a n g wr j ∧ Below w.heap.size w wr) (fun i _ => t.size - (intOf i).toNat)
  case atStart => exact ⟨0, Nat.zero_le _, rfl, hr.congr fun i _ => by unfold layO; rw [if_neg (by simp only [List.take_zero, List.length_nil]; omega)], hb⟩
  case round =>
    obtain ⟨j, hj, rfl, hrow, hb'⟩ := hrel
    by_cases hlt : j < t.size
    · have hst := hrow.step hlt
      have hc := BRow.cell hrow (show a + j < n by omega)
      have hf := BRow.frozen hrow (show a + j < n by omega)
      go_wp2
      go_roundw
      case rel => exact ⟨j + 1, by omega, by go_num, hst, hb'.setCell hg _⟩
      case measure => simp [intOf]; omega
    · obtain rfl : j = t.size := by omega
      have hcv := BRow.string (P := Tryd.prog) 54 5 Tryd.underlying54 Tryd.underlying5 hrow cap Tryd.underlying9
      rw [take_all, lay_row2 HN.out] at hcv
      go_wp2
      go_ret2
      exact ⟨rfl, hb'⟩
/-- What a text laid over another one gives. -/
def spliceS (s : ByteArray) (a : Int) (t : ByteArray) : ByteArray := if a < 0 then str [] else if t.size = 0 then s else if 1048576 < a ∨ 1048576 - a < t.size then str [] else str (Pl.layL s.data.toList a.toNat t.data.toList)
def spliceE (a : Int) (t : ByteArray) : Int := if a < 0 then 1 else if t.size = 0 then 0 else if 1048576 < a ∨ 1048576 - a < t.size then 81 else 0
theorem str_nil_of {t : ByteArray} (h : t.size = 0) : t = str [] := by
  have e : t.data.toList = [] := List.eq_nil_of_length_eq_zero (by rw [len_toList]; exact h)
  exact (str_of t).symm.trans (by rw [e])
def SpliceEnd (s t : ByteArray) (a : Int) (w : World) (e : Ending) (w' : World) : Prop := e = .returned (.tuple #[.string (spliceS s a t), .int .i64 (spliceE a t)]) ∧ Below w.heap.size w w'
theorem splice_any (s t : ByteArray) (a : Int) (hs : s.size ≤ 140737488351232) (ht : t.size ≤ 140737488351232) (w : World) :
    Calls Tryd.prog 15 #[.string s, .int .i64 a, .string t] w (SpliceEnd s t a w) ∧ Calls Tryd.prog 16 #[.string s, .int .i64 a, .string t] w (SpliceEnd s t a w) := by
  unfold SpliceEnd spliceS spliceE
  by_cases h0 : a < 0
  · rw [if_pos h0, if_pos h0]
    exact ⟨(splice_neg s t a h0 w).mono fun e w' ⟨h1, h2⟩ => ⟨h1, h2 ▸ Below.refl _ _⟩, (refSplice_neg s t a h0 w).mono fun e w' ⟨h1, h2⟩ => ⟨h1, h2 ▸ Below.refl _ _⟩⟩
  rw [if_neg h0, if_neg h0]
  by_cases h1 : t.size = 0
  · rw [if_pos h1, if_pos h1]
    obtain rfl := str_nil_of h1
    exact ⟨(splice_none s a (by omega) w).mono fun e w' ⟨h1, h2⟩ => ⟨h1, h2 ▸ Below.refl _ _⟩, (refSplice_none s a (by omega) w).mono fun e w' ⟨h1, h2⟩ => ⟨h1, h2 ▸ Below.refl _ _⟩⟩
  rw [if_neg h1, if_neg h1]
  have he := isEmpty_of_pos (t := t) (by omega)
  by_cases h2 : 1048576 < a ∨ 1048576 - a < t.size
  · rw [if_pos h2, if_pos h2]
    exact ⟨(splice_long s t a (by omega) he ht h2 w).mono fun e w' ⟨h1, h2⟩ => ⟨h1, h2 ▸ Below.refl _ _⟩, (refSplice_long s t a (by omega) he ht h2 w).mono fun e w' ⟨h1, h2⟩ => ⟨h1, h2 ▸ Below.refl _ _⟩⟩
  rw [if_neg h2, if_neg h2]
  obtain ⟨k, rfl⟩ := Int.eq_ofNat_of_zero_le (show 0 ≤ a by omega)
  exact ⟨splice_ok s t k he hs (by omega) w, refSplice_ok s t k he hs (by omega) w⟩
end Go.Proofs.YtgdebcpnihibjaaDoor
