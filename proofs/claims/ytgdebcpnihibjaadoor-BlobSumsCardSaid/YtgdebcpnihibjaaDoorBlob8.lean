/- The walk of blob.Op over one text. -/
import Derived.Test.YtgdebcpnihibjaaDoorBlob7
namespace Go.Proofs.YtgdebcpnihibjaaDoor
open Go.ChangeShapes Go.WideShapes Go.ChangeAt Go.RowKit
set_option linter.unusedVariables false

/-- Each byte turned. -/
def notK (S : Nat → ByteArray) (L : Nat) : Nat → UInt8 := fun q => ~~~ opK 4 S L q
def notM (S : Nat → ByteArray) (L j : Nat) : Nat → UInt8 := fun q => if q < j then notK S L q else opK 4 S L q
theorem notM_at (S : Nat → ByteArray) (L j : Nat) : notM S L j j = opK 4 S L j := if_neg (Nat.lt_irrefl _)
theorem notM_set {S : Nat → ByteArray} {L j : Nat} {w : World} {g n : Nat} (h : BRow w g n (notM S L j)) : BRow (w.setCell ⟨g, j, none⟩ (.int .u8 ((~~~ opK 4 S L j).toNat : Int))) g n (notM S L (j + 1)) := by
  refine (h.set j _).congr fun i _ => ?_
  unfold notM
  by_cases e : i = j
  · subst e
    rw [if_pos rfl, if_pos (by omega)]; rfl
  · rw [if_neg e]
    by_cases h2 : i < j
    · rw [if_pos h2, if_pos (by omega)]
    · rw [if_neg h2, if_neg (by omega)]

set_option maxRecDepth 100000 in
set_option maxHeartbeats 1600000 in
theorem op1_onec (g off cap L : Nat) (S : Nat → ByteArray) (hL : 1 ≤ L) (hL2 : L ≤ 1) (hcap : cap = 1) (hm : cap ≤ 9223372036854775807) (hS : ∀ j, j < L → (S j).size ≤ 140737488351232) (w : World) (hg : g < w.heap.size) (hc : ∀ j, j < L → w.cell? ⟨g, off + j, none⟩ = some (.string (S j))) :
    Calls Tryd.prog 25 #[.int .i64 1, .slice (some ⟨g, off, none⟩) L cap] w fun e w' => e = .returned (.tuple #[.string (str (Pl.row (mxN S L) (opK 1 S L))), .int .i64 0]) ∧ Below w.heap.size w w' := by
  subst hcap
  have HO : Hid (∀ i, byteAt (S 0) i = opK 1 S L i) := fun i => by obtain rfl : L = 1 := by omega
                                                                   exact (opK_one 1 S i).symm
  have HC0 : Hid (w.cell? ⟨g, off, none⟩ = some (.string (S 0))) := hc 0 (by omega)
  have HC := Lib.hid hc
  have HS := Lib.hid hS
  clear hc hS
  go_enter Tryd.func25, Tryd.ntmps25
  go_wp2_with fail
  go_loop [6, 8, 37] (fun n s i => ∃ k : Nat, k ≤ L ∧ i = .int .i64 k ∧ n = .int .i64 (mxN S k : Int)) (fun _ _ i => L - (intOf i).toNat)
  case atStart => exact ⟨0, Nat.zero_le _, rfl, rfl⟩
  case round =>
    obtain ⟨k, hk, rfl, rfl⟩ := hrel
    by_cases hlt : k < L
    · obtain rfl : k = 0 := by omega
      have hcell := HC0.out
      have hmx := mxN_le (S := S) (k := 0) (b := 140737488351232) fun j hj => HS.out j (by omega)
      have hsk := HS.out 0 (by omega)
      go_wp2
      go_round
      case rel => exact ⟨0 + 1, by omega, by go_num, by rw [mxN_succ]; congr 1 <;> omega⟩
      case measure => simp [intOf]; omega
    · obtain rfl : L = k := by omega
      obtain ⟨N, hN⟩ : ∃ N, mxN S L = N := ⟨_, rfl⟩
      have hNle : N ≤ 140737488351232 := by rw [← hN]; exact mxN_le fun j hj => HS.out j hj
      have h0le : (S 0).size ≤ N := by rw [← hN]; exact le_mxN S (by omega)
      have HN := Lib.hid hN
      clear hN
      go_wp2_with (first
        | (refine wpList_make_bytes rfl (.tmp 46) (.tmp 46) _ rfl Tryd.underlying54 _ _ _ rfl rfl N ?_ ?_ ?_; (omega); (have := HN.out; omega); intro w1 hr1 hz1 hb1; have hB1 := hb1 _ _ (Below.refl _ _) (Nat.le_refl _); clear hb1; have hc0 := (hB1.cell (p := ⟨g, off, none⟩) hg).trans HC0.out)
        | (refine wpList_copy_text rfl (.tmp 48) (.tmp 51) _ _ rfl _ Tryd.underlying54 u8size _ _ _ _ N (S 0) _ hr1 rfl rfl ?_ ?_ ?_; (omega); (omega); intro w2 hr2' hz2 hb2; have hB2 := hb2 _ _ hB1 (Nat.le_refl _); clear hb2; have hr2 := hr2'.congr (f' := opK 1 S L) fun i _ => (layO_zero (S 0) i).trans (HO.out i); clear hr2'))
      clear hr1 hz1 hB1 hc0 h0le hz2
      go_loop [56] (fun i => i = .int .i64 0) (fun _ => 0)
      case atStart => rfl
      case round =>
        obtain rfl := hrel
        have hcv := BRow.string (P := Tryd.prog) 54 5 Tryd.underlying54 Tryd.underlying5 hr2 N Tryd.underlying9
        go_wp2
        go_ret2
        exact ⟨by rw [HN.out]; rfl, hB2⟩

set_option maxRecDepth 100000 in
set_option maxHeartbeats 1600000 in
theorem op1_oned (g off cap L : Nat) (S : Nat → ByteArray) (hL : 1 ≤ L) (hL2 : L ≤ 1) (hcap : 2 ≤ cap) (hm : cap ≤ 9223372036854775807) (hS : ∀ j, j < L → (S j).size ≤ 140737488351232) (w : World) (hg : g < w.heap.size) (hc : ∀ j, j < L → w.cell? ⟨g, off + j, none⟩ = some (.string (S j))) :
    Calls Tryd.prog 25 #[.int .i64 1, .slice (some ⟨g, off, none⟩) L cap] w fun e w' => e = .returned (.tuple #[.string (str (Pl.row (mxN S L) (opK 1 S L))), .int .i64 0]) ∧ Below w.heap.size w w' := by
  have HO : Hid (∀ i, byteAt (S 0) i = opK 1 S L i) := fun i => by obtain rfl : L = 1 := by omega
                                                                   exact (opK_one 1 S i).symm
  have HC0 : Hid (w.cell? ⟨g, off, none⟩ = some (.string (S 0))) := hc 0 (by omega)
  have HC := Lib.hid hc
  have HS := Lib.hid hS
  clear hc hS
  go_enter Tryd.func25, Tryd.ntmps25
  go_wp2_with fail
  go_loop [6, 8, 37] (fun n s i => ∃ k : Nat, k ≤ L ∧ i = .int .i64 k ∧ n = .int .i64 (mxN S k : Int)) (fun _ _ i => L - (intOf i).toNat)
  case atStart => exact ⟨0, Nat.zero_le _, rfl, rfl⟩
  case round =>
    obtain ⟨k, hk, rfl, rfl⟩ := hrel
    by_cases hlt : k < L
    · obtain rfl : k = 0 := by omega
      have hcell := HC0.out
      have hmx := mxN_le (S := S) (k := 0) (b := 140737488351232) fun j hj => HS.out j (by omega)
      have hsk := HS.out 0 (by omega)
      go_wp2
      go_round
      case rel => exact ⟨0 + 1, by omega, by go_num, by rw [mxN_succ]; congr 1 <;> omega⟩
      case measure => simp [intOf]; omega
    · obtain rfl : L = k := by omega
      obtain ⟨N, hN⟩ : ∃ N, mxN S L = N := ⟨_, rfl⟩
      have hNle : N ≤ 140737488351232 := by rw [← hN]; exact mxN_le fun j hj => HS.out j hj
      have h0le : (S 0).size ≤ N := by rw [← hN]; exact le_mxN S (by omega)
      have HN := Lib.hid hN
      clear hN
      go_wp2_with (first
        | (refine wpList_make_bytes rfl (.tmp 46) (.tmp 46) _ rfl Tryd.underlying54 _ _ _ rfl rfl N ?_ ?_ ?_; (omega); (have := HN.out; omega); intro w1 hr1 hz1 hb1; have hB1 := hb1 _ _ (Below.refl _ _) (Nat.le_refl _); clear hb1; have hc0 := (hB1.cell (p := ⟨g, off, none⟩) hg).trans HC0.out)
        | (refine wpList_copy_text rfl (.tmp 48) (.tmp 51) _ _ rfl _ Tryd.underlying54 u8size _ _ _ _ N (S 0) _ hr1 rfl rfl ?_ ?_ ?_; (omega); (omega); intro w2 hr2' hz2 hb2; have hB2 := hb2 _ _ hB1 (Nat.le_refl _); clear hb2; have hr2 := hr2'.congr (f' := opK 1 S L) fun i _ => (layO_zero (S 0) i).trans (HO.out i); clear hr2'))
      clear hr1 hz1 hB1 hc0 h0le hz2
      go_loop [56] (fun i => i = .int .i64 0) (fun _ => 0)
      case atStart => rfl
      case round =>
        obtain rfl := hrel
        have hcv := BRow.string (P := Tryd.prog) 54 5 Tryd.underlying54 Tryd.underlying5 hr2 N Tryd.underlying9
        go_wp2
        go_ret2
        exact ⟨by rw [HN.out]; rfl, hB2⟩

set_option maxRecDepth 100000 in
set_option maxHeartbeats 1600000 in
theorem op2_onec (g off cap L : Nat) (S : Nat → ByteArray) (hL : 1 ≤ L) (hL2 : L ≤ 1) (hcap : cap = 1) (hm : cap ≤ 9223372036854775807) (hS : ∀ j, j < L → (S j).size ≤ 140737488351232) (w : World) (hg : g < w.heap.size) (hc : ∀ j, j < L → w.cell? ⟨g, off + j, none⟩ = some (.string (S j))) :
    Calls Tryd.prog 25 #[.int .i64 2, .slice (some ⟨g, off, none⟩) L cap] w fun e w' => e = .returned (.tuple #[.string (str (Pl.row (mxN S L) (opK 2 S L))), .int .i64 0]) ∧ Below w.heap.size w w' := by
  subst hcap
  have HO : Hid (∀ i, byteAt (S 0) i = opK 2 S L i) := fun i => by obtain rfl : L = 1 := by omega
                                                                   exact (opK_one 2 S i).symm
  have HC0 : Hid (w.cell? ⟨g, off, none⟩ = some (.string (S 0))) := hc 0 (by omega)
  have HC := Lib.hid hc
  have HS := Lib.hid hS
  clear hc hS
  go_enter Tryd.func25, Tryd.ntmps25
  go_wp2_with fail
  go_loop [6, 8, 37] (fun n s i => ∃ k : Nat, k ≤ L ∧ i = .int .i64 k ∧ n = .int .i64 (mxN S k : Int)) (fun _ _ i => L - (intOf i).toNat)
  case atStart => exact ⟨0, Nat.zero_le _, rfl, rfl⟩
  case round =>
    obtain ⟨k, hk, rfl, rfl⟩ := hrel
    by_cases hlt : k < L
    · obtain rfl : k = 0 := by omega
      have hcell := HC0.out
      have hmx := mxN_le (S := S) (k := 0) (b := 140737488351232) fun j hj => HS.out j (by omega)
      have hsk := HS.out 0 (by omega)
      go_wp2
      go_round
      case rel => exact ⟨0 + 1, by omega, by go_num, by rw [mxN_succ]; congr 1 <;> omega⟩
      case measure => simp [intOf]; omega
    · obtain rfl : L = k := by omega
      obtain ⟨N, hN⟩ : ∃ N, mxN S L = N := ⟨_, rfl⟩
      have hNle : N ≤ 140737488351232 := by rw [← hN]; exact mxN_le fun j hj => HS.out j hj
      have h0le : (S 0).size ≤ N := by rw [← hN]; exact le_mxN S (by omega)
      have HN := Lib.hid hN
      clear hN
      go_wp2_with (first
        | (refine wpList_make_bytes rfl (.tmp 46) (.tmp 46) _ rfl Tryd.underlying54 _ _ _ rfl rfl N ?_ ?_ ?_; (omega); (have := HN.out; omega); intro w1 hr1 hz1 hb1; have hB1 := hb1 _ _ (Below.refl _ _) (Nat.le_refl _); clear hb1; have hc0 := (hB1.cell (p := ⟨g, off, none⟩) hg).trans HC0.out)
        | (refine wpList_copy_text rfl (.tmp 48) (.tmp 51) _ _ rfl _ Tryd.underlying54 u8size _ _ _ _ N (S 0) _ hr1 rfl rfl ?_ ?_ ?_; (omega); (omega); intro w2 hr2' hz2 hb2; have hB2 := hb2 _ _ hB1 (Nat.le_refl _); clear hb2; have hr2 := hr2'.congr (f' := opK 2 S L) fun i _ => (layO_zero (S 0) i).trans (HO.out i); clear hr2'))
      clear hr1 hz1 hB1 hc0 h0le hz2
      go_loop [56] (fun i => i = .int .i64 0) (fun _ => 0)
      case atStart => rfl
      case round =>
        obtain rfl := hrel
        have hcv := BRow.string (P := Tryd.prog) 54 5 Tryd.underlying54 Tryd.underlying5 hr2 N Tryd.underlying9
        go_wp2
        go_ret2
        exact ⟨by rw [HN.out]; rfl, hB2⟩

set_option maxRecDepth 100000 in
set_option maxHeartbeats 1600000 in
theorem op2_oned (g off cap L : Nat) (S : Nat → ByteArray) (hL : 1 ≤ L) (hL2 : L ≤ 1) (hcap : 2 ≤ cap) (hm : cap ≤ 9223372036854775807) (hS : ∀ j, j < L → (S j).size ≤ 140737488351232) (w : World) (hg : g < w.heap.size) (hc : ∀ j, j < L → w.cell? ⟨g, off + j, none⟩ = some (.string (S j))) :
    Calls Tryd.prog 25 #[.int .i64 2, .slice (some ⟨g, off, none⟩) L cap] w fun e w' => e = .returned (.tuple #[.string (str (Pl.row (mxN S L) (opK 2 S L))), .int .i64 0]) ∧ Below w.heap.size w w' := by
  have HO : Hid (∀ i, byteAt (S 0) i = opK 2 S L i) := fun i => by obtain rfl : L = 1 := by omega
                                                                   exact (opK_one 2 S i).symm
  have HC0 : Hid (w.cell? ⟨g, off, none⟩ = some (.string (S 0))) := hc 0 (by omega)
  have HC := Lib.hid hc
  have HS := Lib.hid hS
  clear hc hS
  go_enter Tryd.func25, Tryd.ntmps25
  go_wp2_with fail
  go_loop [6, 8, 37] (fun n s i => ∃ k : Nat, k ≤ L ∧ i = .int .i64 k ∧ n = .int .i64 (mxN S k : Int)) (fun _ _ i => L - (intOf i).toNat)
  case atStart => exact ⟨0, Nat.zero_le _, rfl, rfl⟩
  case round =>
    obtain ⟨k, hk, rfl, rfl⟩ := hrel
    by_cases hlt : k < L
    · obtain rfl : k = 0 := by omega
      have hcell := HC0.out
      have hmx := mxN_le (S := S) (k := 0) (b := 140737488351232) fun j hj => HS.out j (by omega)
      have hsk := HS.out 0 (by omega)
      go_wp2
      go_round
      case rel => exact ⟨0 + 1, by omega, by go_num, by rw [mxN_succ]; congr 1 <;> omega⟩
      case measure => simp [intOf]; omega
    · obtain rfl : L = k := by omega
      obtain ⟨N, hN⟩ : ∃ N, mxN S L = N := ⟨_, rfl⟩
      have hNle : N ≤ 140737488351232 := by rw [← hN]; exact mxN_le fun j hj => HS.out j hj
      have h0le : (S 0).size ≤ N := by rw [← hN]; exact le_mxN S (by omega)
      have HN := Lib.hid hN
      clear hN
      go_wp2_with (first
        | (refine wpList_make_bytes rfl (.tmp 46) (.tmp 46) _ rfl Tryd.underlying54 _ _ _ rfl rfl N ?_ ?_ ?_; (omega); (have := HN.out; omega); intro w1 hr1 hz1 hb1; have hB1 := hb1 _ _ (Below.refl _ _) (Nat.le_refl _); clear hb1; have hc0 := (hB1.cell (p := ⟨g, off, none⟩) hg).trans HC0.out)
        | (refine wpList_copy_text rfl (.tmp 48) (.tmp 51) _ _ rfl _ Tryd.underlying54 u8size _ _ _ _ N (S 0) _ hr1 rfl rfl ?_ ?_ ?_; (omega); (omega); intro w2 hr2' hz2 hb2; have hB2 := hb2 _ _ hB1 (Nat.le_refl _); clear hb2; have hr2 := hr2'.congr (f' := opK 2 S L) fun i _ => (layO_zero (S 0) i).trans (HO.out i); clear hr2'))
      clear hr1 hz1 hB1 hc0 h0le hz2
      go_loop [56] (fun i => i = .int .i64 0) (fun _ => 0)
      case atStart => rfl
      case round =>
        obtain rfl := hrel
        have hcv := BRow.string (P := Tryd.prog) 54 5 Tryd.underlying54 Tryd.underlying5 hr2 N Tryd.underlying9
        go_wp2
        go_ret2
        exact ⟨by rw [HN.out]; rfl, hB2⟩

set_option maxRecDepth 100000 in
set_option maxHeartbeats 1600000 in
theorem op3_onec (g off cap L : Nat) (S : Nat → ByteArray) (hL : 1 ≤ L) (hL2 : L ≤ 1) (hcap : cap = 1) (hm : cap ≤ 9223372036854775807) (hS : ∀ j, j < L → (S j).size ≤ 140737488351232) (w : World) (hg : g < w.heap.size) (hc : ∀ j, j < L → w.cell? ⟨g, off + j, none⟩ = some (.string (S j))) :
    Calls Tryd.prog 25 #[.int .i64 3, .slice (some ⟨g, off, none⟩) L cap] w fun e w' => e = .returned (.tuple #[.string (str (Pl.row (mxN S L) (opK 3 S L))), .int .i64 0]) ∧ Below w.heap.size w w' := by
  subst hcap
  have HO : Hid (∀ i, byteAt (S 0) i = opK 3 S L i) := fun i => by obtain rfl : L = 1 := by omega
                                                                   exact (opK_one 3 S i).symm
  have HC0 : Hid (w.cell? ⟨g, off, none⟩ = some (.string (S 0))) := hc 0 (by omega)
  have HC := Lib.hid hc
  have HS := Lib.hid hS
  clear hc hS
  go_enter Tryd.func25, Tryd.ntmps25
  go_wp2_with fail
  go_loop [6, 8, 37] (fun n s i => ∃ k : Nat, k ≤ L ∧ i = .int .i64 k ∧ n = .int .i64 (mxN S k : Int)) (fun _ _ i => L - (intOf i).toNat)
  case atStart => exact ⟨0, Nat.zero_le _, rfl, rfl⟩
  case round =>
    obtain ⟨k, hk, rfl, rfl⟩ := hrel
    by_cases hlt : k < L
    · obtain rfl : k = 0 := by omega
      have hcell := HC0.out
      have hmx := mxN_le (S := S) (k := 0) (b := 140737488351232) fun j hj => HS.out j (by omega)
      have hsk := HS.out 0 (by omega)
      go_wp2
      go_round
      case rel => exact ⟨0 + 1, by omega, by go_num, by rw [mxN_succ]; congr 1 <;> omega⟩
      case measure => simp [intOf]; omega
    · obtain rfl : L = k := by omega
      obtain ⟨N, hN⟩ : ∃ N, mxN S L = N := ⟨_, rfl⟩
      have hNle : N ≤ 140737488351232 := by rw [← hN]; exact mxN_le fun j hj => HS.out j hj
      have h0le : (S 0).size ≤ N := by rw [← hN]; exact le_mxN S (by omega)
      have HN := Lib.hid hN
      clear hN
      go_wp2_with (first
        | (refine wpList_make_bytes rfl (.tmp 46) (.tmp 46) _ rfl Tryd.underlying54 _ _ _ rfl rfl N ?_ ?_ ?_; (omega); (have := HN.out; omega); intro w1 hr1 hz1 hb1; have hB1 := hb1 _ _ (Below.refl _ _) (Nat.le_refl _); clear hb1; have hc0 := (hB1.cell (p := ⟨g, off, none⟩) hg).trans HC0.out)
        | (refine wpList_copy_text rfl (.tmp 48) (.tmp 51) _ _ rfl _ Tryd.underlying54 u8size _ _ _ _ N (S 0) _ hr1 rfl rfl ?_ ?_ ?_; (omega); (omega); intro w2 hr2' hz2 hb2; have hB2 := hb2 _ _ hB1 (Nat.le_refl _); clear hb2; have hr2 := hr2'.congr (f' := opK 3 S L) fun i _ => (layO_zero (S 0) i).trans (HO.out i); clear hr2'))
      clear hr1 hz1 hB1 hc0 h0le hz2
      go_loop [56] (fun i => i = .int .i64 0) (fun _ => 0)
      case atStart => rfl
      case round =>
        obtain rfl := hrel
        have hcv := BRow.string (P := Tryd.prog) 54 5 Tryd.underlying54 Tryd.underlying5 hr2 N Tryd.underlying9
        go_wp2
        go_ret2
        exact ⟨by rw [HN.out]; rfl, hB2⟩

set_option maxRecDepth 100000 in
set_option maxHeartbeats 1600000 in
theorem op3_oned (g off cap L : Nat) (S : Nat → ByteArray) (hL : 1 ≤ L) (hL2 : L ≤ 1) (hcap : 2 ≤ cap) (hm : cap ≤ 9223372036854775807) (hS : ∀ j, j < L → (S j).size ≤ 140737488351232) (w : World) (hg : g < w.heap.size) (hc : ∀ j, j < L → w.cell? ⟨g, off + j, none⟩ = some (.string (S j))) :
    Calls Tryd.prog 25 #[.int .i64 3, .slice (some ⟨g, off, none⟩) L cap] w fun e w' => e = .returned (.tuple #[.string (str (Pl.row (mxN S L) (opK 3 S L))), .int .i64 0]) ∧ Below w.heap.size w w' := by
  have HO : Hid (∀ i, byteAt (S 0) i = opK 3 S L i) := fun i => by obtain rfl : L = 1 := by omega
                                                                   exact (opK_one 3 S i).symm
  have HC0 : Hid (w.cell? ⟨g, off, none⟩ = some (.string (S 0))) := hc 0 (by omega)
  have HC := Lib.hid hc
  have HS := Lib.hid hS
  clear hc hS
  go_enter Tryd.func25, Tryd.ntmps25
  go_wp2_with fail
  go_loop [6, 8, 37] (fun n s i => ∃ k : Nat, k ≤ L ∧ i = .int .i64 k ∧ n = .int .i64 (mxN S k : Int)) (fun _ _ i => L - (intOf i).toNat)
  case atStart => exact ⟨0, Nat.zero_le _, rfl, rfl⟩
  case round =>
    obtain ⟨k, hk, rfl, rfl⟩ := hrel
    by_cases hlt : k < L
    · obtain rfl : k = 0 := by omega
      have hcell := HC0.out
      have hmx := mxN_le (S := S) (k := 0) (b := 140737488351232) fun j hj => HS.out j (by omega)
      have hsk := HS.out 0 (by omega)
      go_wp2
      go_round
      case rel => exact ⟨0 + 1, by omega, by go_num, by rw [mxN_succ]; congr 1 <;> omega⟩
      case measure => simp [intOf]; omega
    · obtain rfl : L = k := by omega
      obtain ⟨N, hN⟩ : ∃ N, mxN S L = N := ⟨_, rfl⟩
      have hNle : N ≤ 140737488351232 := by rw [← hN]; exact mxN_le fun j hj => HS.out j hj
      have h0le : (S 0).size ≤ N := by rw [← hN]; exact le_mxN S (by omega)
      have HN := Lib.hid hN
      clear hN
      go_wp2_with (first
        | (refine wpList_make_bytes rfl (.tmp 46) (.tmp 46) _ rfl Tryd.underlying54 _ _ _ rfl rfl N ?_ ?_ ?_; (omega); (have := HN.out; omega); intro w1 hr1 hz1 hb1; have hB1 := hb1 _ _ (Below.refl _ _) (Nat.le_refl _); clear hb1; have hc0 := (hB1.cell (p := ⟨g, off, none⟩) hg).trans HC0.out)
        | (refine wpList_copy_text rfl (.tmp 48) (.tmp 51) _ _ rfl _ Tryd.underlying54 u8size _ _ _ _ N (S 0) _ hr1 rfl rfl ?_ ?_ ?_; (omega); (omega); intro w2 hr2' hz2 hb2; have hB2 := hb2 _ _ hB1 (Nat.le_refl _); clear hb2; have hr2 := hr2'.congr (f' := opK 3 S L) fun i _ => (layO_zero (S 0) i).trans (HO.out i); clear hr2'))
      clear hr1 hz1 hB1 hc0 h0le hz2
      go_loop [56] (fun i => i = .int .i64 0) (fun _ => 0)
      case atStart => rfl
      case round =>
        obtain rfl := hrel
        have hcv := BRow.string (P := Tryd.prog) 54 5 Tryd.underlying54 Tryd.underlying5 hr2 N Tryd.underlying9
        go_wp2
        go_ret2
        exact ⟨by rw [HN.out]; rfl, hB2⟩

set_option maxRecDepth 100000 in
set_option maxHeartbeats 1600000 in
theorem op4_onec (g off cap L : Nat) (S : Nat → ByteArray) (hL : 1 ≤ L) (hL2 : L ≤ 1) (hcap : cap = 1) (hm : cap ≤ 9223372036854775807) (hS : ∀ j, j < L → (S j).size ≤ 140737488351232) (w : World) (hg : g < w.heap.size) (hc : ∀ j, j < L → w.cell? ⟨g, off + j, none⟩ = some (.string (S j))) :
    Calls Tryd.prog 25 #[.int .i64 4, .slice (some ⟨g, off, none⟩) L cap] w fun e w' => e = .returned (.tuple #[.string (str (Pl.row (mxN S L) (notK S L))), .int .i64 0]) ∧ Below w.heap.size w w' := by
  subst hcap
  have HO : Hid (∀ i, byteAt (S 0) i = opK 4 S L i) := fun i => by obtain rfl : L = 1 := by omega
                                                                   exact (opK_one 4 S i).symm
  have hg4 : decide ((1 : Int) < (L : Int)) = false := decide_eq_false (by omega)
  have HC0 : Hid (w.cell? ⟨g, off, none⟩ = some (.string (S 0))) := hc 0 (by omega)
  have HC := Lib.hid hc
  have HS := Lib.hid hS
  clear hc hS
  go_enter Tryd.func25, Tryd.ntmps25
  go_wp2_with fail
  go_loop [6, 8, 37] (fun n s i => ∃ k : Nat, k ≤ L ∧ i = .int .i64 k ∧ n = .int .i64 (mxN S k : Int)) (fun _ _ i => L - (intOf i).toNat)
  case atStart => exact ⟨0, Nat.zero_le _, rfl, rfl⟩
  case round =>
    obtain ⟨k, hk, rfl, rfl⟩ := hrel
    by_cases hlt : k < L
    · obtain rfl : k = 0 := by omega
      have hcell := HC0.out
      have hmx := mxN_le (S := S) (k := 0) (b := 140737488351232) fun j hj => HS.out j (by omega)
      have hsk := HS.out 0 (by omega)
      go_wp2
      go_round
      case rel => exact ⟨0 + 1, by omega, by go_num, by rw [mxN_succ]; congr 1 <;> omega⟩
      case measure => simp [intOf]; omega
    · obtain rfl : L = k := by omega
      obtain ⟨N, hN⟩ : ∃ N, mxN S L = N := ⟨_, rfl⟩
      have hNle : N ≤ 140737488351232 := by rw [← hN]; exact mxN_le fun j hj => HS.out j hj
      have h0le : (S 0).size ≤ N := by rw [← hN]; exact le_mxN S (by omega)
      have HN := Lib.hid hN
      clear hN
      go_wp2_with (first
        | (refine wpList_make_bytes rfl (.tmp 46) (.tmp 46) _ rfl Tryd.underlying54 _ _ _ rfl rfl N ?_ ?_ ?_; (omega); (have := HN.out; omega); intro w1 hr1 hz1 hb1; have hB1 := hb1 _ _ (Below.refl _ _) (Nat.le_refl _); clear hb1; have hc0 := (hB1.cell (p := ⟨g, off, none⟩) hg).trans HC0.out)
        | (refine wpList_copy_text rfl (.tmp 48) (.tmp 51) _ _ rfl _ Tryd.underlying54 u8size _ _ _ _ N (S 0) _ hr1 rfl rfl ?_ ?_ ?_; (omega); (omega); intro w2 hr2' hz2 hb2; have hB2 := hb2 _ _ hB1 (Nat.le_refl _); clear hb2; have hr2 := hr2'.congr (f' := opK 4 S L) fun i _ => (layO_zero (S 0) i).trans (HO.out i); clear hr2'))
      clear hr1 hz1 hB1 hc0 h0le hz2
      go_loop [56] (fun i => i = .int .i64 0) (fun _ => 0)
      case atStart => rfl
      case round =>
        obtain rfl := hrel
        go_wp2_with fail
        go_loopw [113, 14] (fun i x wi => ∃ j : Nat, j ≤ N ∧ i = .int .i64 j ∧ BRow wi w.heap.size N (notM S L j) ∧ Below w.heap.size w wi) (fun i _ _ => N - (intOf i).toNat)
        case atStart => exact ⟨0, Nat.zero_le _, rfl, hr2.congr fun i _ => rfl, hB2⟩
        case round =>
          clear hr2 hB2
          obtain ⟨j, hj, rfl, hra, hbi⟩ := hrel
          by_cases hjl : j < N
          · have hca := hra.cell hjl
            have hfa := hra.frozen hjl
            have hset := notM_set hra
            rw [notM_at] at hca
            have hx := xor_val (opK 4 S L j)
            obtain ⟨a, ha⟩ : ∃ a, opK 4 S L j = a := ⟨_, rfl⟩
            rw [ha] at hca hset hx
            clear ha
            obtain ⟨b, hb⟩ : ∃ b, ~~~ a = b := ⟨_, rfl⟩
            rw [hb] at hset hx
            clear hb
            go_wp2
            go_roundw
            case rel => exact ⟨j + 1, by omega, by go_num, hset, hbi.setCell (Nat.le_refl _) _⟩
            case measure => simp [intOf]; omega
          · obtain rfl : j = N := by omega
            have hrb := hra.congr (f' := notK S L) fun i hi => if_pos hi
            have hcv := BRow.string (P := Tryd.prog) 54 5 Tryd.underlying54 Tryd.underlying5 hrb j Tryd.underlying9
            go_wp2
            go_ret2
            exact ⟨by rw [HN.out]; rfl, hbi⟩

set_option maxRecDepth 100000 in
set_option maxHeartbeats 1600000 in
theorem op4_oned (g off cap L : Nat) (S : Nat → ByteArray) (hL : 1 ≤ L) (hL2 : L ≤ 1) (hcap : 2 ≤ cap) (hm : cap ≤ 9223372036854775807) (hS : ∀ j, j < L → (S j).size ≤ 140737488351232) (w : World) (hg : g < w.heap.size) (hc : ∀ j, j < L → w.cell? ⟨g, off + j, none⟩ = some (.string (S j))) :
    Calls Tryd.prog 25 #[.int .i64 4, .slice (some ⟨g, off, none⟩) L cap] w fun e w' => e = .returned (.tuple #[.string (str (Pl.row (mxN S L) (notK S L))), .int .i64 0]) ∧ Below w.heap.size w w' := by
  have HO : Hid (∀ i, byteAt (S 0) i = opK 4 S L i) := fun i => by obtain rfl : L = 1 := by omega
                                                                   exact (opK_one 4 S i).symm
  have hg4 : decide ((1 : Int) < (L : Int)) = false := decide_eq_false (by omega)
  have HC0 : Hid (w.cell? ⟨g, off, none⟩ = some (.string (S 0))) := hc 0 (by omega)
  have HC := Lib.hid hc
  have HS := Lib.hid hS
  clear hc hS
  go_enter Tryd.func25, Tryd.ntmps25
  go_wp2_with fail
  go_loop [6, 8, 37] (fun n s i => ∃ k : Nat, k ≤ L ∧ i = .int .i64 k ∧ n = .int .i64 (mxN S k : Int)) (fun _ _ i => L - (intOf i).toNat)
  case atStart => exact ⟨0, Nat.zero_le _, rfl, rfl⟩
  case round =>
    obtain ⟨k, hk, rfl, rfl⟩ := hrel
    by_cases hlt : k < L
    · obtain rfl : k = 0 := by omega
      have hcell := HC0.out
      have hmx := mxN_le (S := S) (k := 0) (b := 140737488351232) fun j hj => HS.out j (by omega)
      have hsk := HS.out 0 (by omega)
      go_wp2
      go_round
      case rel => exact ⟨0 + 1, by omega, by go_num, by rw [mxN_succ]; congr 1 <;> omega⟩
      case measure => simp [intOf]; omega
    · obtain rfl : L = k := by omega
      obtain ⟨N, hN⟩ : ∃ N, mxN S L = N := ⟨_, rfl⟩
      have hNle : N ≤ 140737488351232 := by rw [← hN]; exact mxN_le fun j hj => HS.out j hj
      have h0le : (S 0).size ≤ N := by rw [← hN]; exact le_mxN S (by omega)
      have HN := Lib.hid hN
      clear hN
      go_wp2_with (first
        | (refine wpList_make_bytes rfl (.tmp 46) (.tmp 46) _ rfl Tryd.underlying54 _ _ _ rfl rfl N ?_ ?_ ?_; (omega); (have := HN.out; omega); intro w1 hr1 hz1 hb1; have hB1 := hb1 _ _ (Below.refl _ _) (Nat.le_refl _); clear hb1; have hc0 := (hB1.cell (p := ⟨g, off, none⟩) hg).trans HC0.out)
        | (refine wpList_copy_text rfl (.tmp 48) (.tmp 51) _ _ rfl _ Tryd.underlying54 u8size _ _ _ _ N (S 0) _ hr1 rfl rfl ?_ ?_ ?_; (omega); (omega); intro w2 hr2' hz2 hb2; have hB2 := hb2 _ _ hB1 (Nat.le_refl _); clear hb2; have hr2 := hr2'.congr (f' := opK 4 S L) fun i _ => (layO_zero (S 0) i).trans (HO.out i); clear hr2'))
      clear hr1 hz1 hB1 hc0 h0le hz2
      go_loop [56] (fun i => i = .int .i64 0) (fun _ => 0)
      case atStart => rfl
      case round =>
        obtain rfl := hrel
        go_wp2_with fail
        go_loopw [113, 14] (fun i x wi => ∃ j : Nat, j ≤ N ∧ i = .int .i64 j ∧ BRow wi w.heap.size N (notM S L j) ∧ Below w.heap.size w wi) (fun i _ _ => N - (intOf i).toNat)
        case atStart => exact ⟨0, Nat.zero_le _, rfl, hr2.congr fun i _ => rfl, hB2⟩
        case round =>
          clear hr2 hB2
          obtain ⟨j, hj, rfl, hra, hbi⟩ := hrel
          by_cases hjl : j < N
          · have hca := hra.cell hjl
            have hfa := hra.frozen hjl
            have hset := notM_set hra
            rw [notM_at] at hca
            have hx := xor_val (opK 4 S L j)
            obtain ⟨a, ha⟩ : ∃ a, opK 4 S L j = a := ⟨_, rfl⟩
            rw [ha] at hca hset hx
            clear ha
            obtain ⟨b, hb⟩ : ∃ b, ~~~ a = b := ⟨_, rfl⟩
            rw [hb] at hset hx
            clear hb
            go_wp2
            go_roundw
            case rel => exact ⟨j + 1, by omega, by go_num, hset, hbi.setCell (Nat.le_refl _) _⟩
            case measure => simp [intOf]; omega
          · obtain rfl : j = N := by omega
            have hrb := hra.congr (f' := notK S L) fun i hi => if_pos hi
            have hcv := BRow.string (P := Tryd.prog) 54 5 Tryd.underlying54 Tryd.underlying5 hrb j Tryd.underlying9
            go_wp2
            go_ret2
            exact ⟨by rw [HN.out]; rfl, hbi⟩
end Go.Proofs.YtgdebcpnihibjaaDoor
