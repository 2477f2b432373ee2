/- The walk of the reference's Op. -/
import Derived.Test.YtgdebcpnihibjaaDoorBlob8
namespace Go.Proofs.YtgdebcpnihibjaaDoor
open Go.ChangeShapes Go.WideShapes Go.ChangeAt Go.RowKit
set_option linter.unusedVariables false

/-- The row of the reference: k bytes done, x at k, 0 behind. -/
def rowR (F : Nat → UInt8) (k : Nat) (x : UInt8) : Nat → UInt8 := fun q => if q < k then F q else if q = k then x else 0
theorem rowR_at (F : Nat → UInt8) (k : Nat) (x : UInt8) : rowR F k x k = x := by unfold rowR; rw [if_neg (Nat.lt_irrefl _), if_pos rfl]
theorem rowR_start (F : Nat → UInt8) (i : Nat) : rowR F 0 0 i = 0 := by unfold rowR; rw [if_neg (by omega)]; split <;> rfl
theorem rowR_set {F : Nat → UInt8} {k : Nat} {x : UInt8} (y : UInt8) {w : World} {g n : Nat} (h : BRow w g n (rowR F k x)) : BRow (w.setCell ⟨g, k, none⟩ (.int .u8 (y.toNat : Int))) g n (rowR F k y) := by
  refine (h.set k y).congr fun i _ => ?_
  unfold rowR
  by_cases e : i = k
  · subst e; rw [if_pos rfl, if_neg (Nat.lt_irrefl _), if_pos rfl]
  · rw [if_neg e, if_neg e, if_neg e]
theorem rowR_next {F : Nat → UInt8} {k : Nat} {x : UInt8} (hx : x = F k) (i : Nat) : rowR F k x i = rowR F (k + 1) 0 i := by
  unfold rowR
  by_cases h1 : i < k
  · rw [if_pos h1, if_pos (by omega)]
  · rw [if_neg h1]
    by_cases h2 : i = k
    · subst h2; rw [if_pos rfl, if_pos (by omega), hx]
    · rw [if_neg h2, if_neg (by omega)]; split <;> rfl
theorem rowR_all {F : Nat → UInt8} {n i : Nat} {x : UInt8} (h : i < n) : rowR F n x i = F i := if_pos h
def valR (op : Int) (S : Nat → ByteArray) (k i : Nat) : UInt8 := if i = 0 then 0 else opK op S i k
theorem valR_zero (op : Int) (S : Nat → ByteArray) (k : Nat) : valR op S k 0 = 0 := rfl
theorem valR_succ (op : Int) (S : Nat → ByteArray) (k i : Nat) : valR op S k (i + 1) = opK op S (i + 1) k := if_neg (by omega)
theorem sub255 (a b : UInt8) (h : ~~~ a = b) : (255 - (a.toNat : Int)) % 256 = (b.toNat : Int) := by
  rw [← h, ← Pl.not_sub]
  have := a.toNat_lt
  rw [UInt8.toNat_sub_of_le _ _ (by rw [UInt8.le_iff_toNat_le]; show a.toNat ≤ 255; omega)]
  show _ = ((255 - a.toNat : Nat) : Int)
  omega

set_option maxRecDepth 100000 in
set_option maxHeartbeats 1600000 in
theorem refOp1_ok (g off cap L : Nat) (S : Nat → ByteArray) (hL : 1 ≤ L) (hm : L ≤ 9223372036854775807) (hS : ∀ j, j < L → (S j).size ≤ 140737488351232) (w : World) (hg : g < w.heap.size) (hc : ∀ j, j < L → w.cell? ⟨g, off + j, none⟩ = some (.string (S j))) :
    Calls Tryd.prog 26 #[.int .i64 1, .slice (some ⟨g, off, none⟩) L cap] w fun e w' => e = .returned (.tuple #[.string (str (Pl.row (mxN S L) (opK 1 S L))), .int .i64 0]) ∧ Below w.heap.size w w' := by
  have HC := Lib.hid hc
  have HS := Lib.hid hS
  clear hc hS
  go_enter Tryd.func26, Tryd.ntmps26
  go_wp2_with fail
  go_loop [6, 7] (fun n i => ∃ k : Nat, k ≤ L ∧ i = .int .i64 k ∧ n = .int .i64 (mxN S k : Int)) (fun _ i => L - (intOf i).toNat)
  case atStart => exact ⟨0, Nat.zero_le _, rfl, rfl⟩
  case round =>
    obtain ⟨k, hk, rfl, rfl⟩ := hrel
    by_cases hlt : k < L
    · have hcell := HC.out k hlt
      have hmx := mxN_le (S := S) (k := k) (b := 140737488351232) fun j hj => HS.out j (by omega)
      have hsk := HS.out k hlt
      go_wp2
      go_round
      case rel => exact ⟨k + 1, by omega, by go_num, by rw [mxN_succ]; congr 1; omega⟩
      case measure => simp [intOf]; omega
    · obtain rfl : L = k := by omega
      obtain ⟨N, hN⟩ : ∃ N, mxN S L = N := ⟨_, rfl⟩
      have hNle : N ≤ 140737488351232 := by rw [← hN]; exact mxN_le fun j hj => HS.out j hj
      have HN := Lib.hid hN
      clear hN
      go_wp2_with (refine wpList_make_bytes rfl (.tmp 45) (.tmp 45) _ rfl Tryd.underlying54 _ _ _ rfl rfl N ?_ ?_ ?_; (omega); (have := HN.out; omega); intro w1 hr1 hz1 hb1; have hB1 := hb1 _ _ (Below.refl _ _) (Nat.le_refl _); clear hb1)
      go_loopw [9] (fun i wr => ∃ k : Nat, k ≤ N ∧ i = .int .i64 k ∧ BRow wr w.heap.size N (rowR (opK 1 S L) k 0) ∧ Below w.heap.size w wr) (fun i _ => N - (intOf i).toNat)
      case atStart => exact ⟨0, Nat.zero_le _, rfl, hr1.congr fun i _ => (rowR_start _ i).symm, hB1⟩
      case round =>
        obtain ⟨wo, rfl⟩ : ∃ wo : World, wo = wr := ⟨_, rfl⟩
        obtain ⟨k, hk, rfl, hrow, hbw⟩ := hrel
        clear hr1 hB1 hz1
        by_cases hlt : k < N
        · have hkN : (k : Int) < (mxN S L : Int) := by have := HN.out; omega
          go_wp2_with fail
          go_loopw [10, 11] (fun i x wi => ∃ j : Nat, j ≤ L ∧ i = .int .i64 j ∧ BRow wi w.heap.size N (rowR (opK 1 S L) k (valR 1 S k j)) ∧ Below w.heap.size w wi) (fun i _ _ => L - (intOf i).toNat)
          case atStart => exact ⟨0, Nat.zero_le _, rfl, hrow, hbw⟩
          case round =>
            clear hrow hbw
            obtain ⟨i, hi, rfl, hra, hbi⟩ := hrel
            by_cases hil : i < L
            · have hcell := (hbi.cell (p := ⟨g, off + i, none⟩) hg).trans (HC.out i hil)
              have hsz := HS.out i hil
              have hca := hra.cell hlt
              have hfa := hra.frozen hlt
              rw [rowR_at] at hca
              by_cases hi0 : i = 0
              · subst hi0
                have hset := rowR_set (byteAt (S 0) k) hra
                rw [show byteAt (S 0) k = valR 1 S k (0 + 1) by rw [valR_succ]; exact (opK_one 1 S k).symm] at hset
                by_cases hks : k < (S 0).size
                · have hcb : valR 1 S k (0 + 1) = (S 0)[k] := by rw [valR_succ]; exact (opK_one 1 S k).trans (byteAt_eq _ hks)
                  have hset2 := hset
                  rw [show (.int .u8 ((valR 1 S k (0 + 1)).toNat : Int) : Value) = .int .u8 ((S 0)[k].toNat : Int) by rw [hcb]] at hset2
                  clear hset hcb
                  have hset := hset2
                  clear hset2
                  simp only [Nat.add_zero] at hcell
                  go_wp2
                  go_roundw
                  case rel => exact ⟨0 + 1, by omega, by go_num, hset, hbi.setCell (Nat.le_refl _) _⟩
                  case measure => simp [intOf]; omega
                · have hcb : valR 1 S k (0 + 1) = 0 := by rw [valR_succ]; exact (opK_one 1 S k).trans (byteAt_out (by omega))
                  have hset2 : BRow (wr.setCell ⟨w.heap.size, k, none⟩ (.int .u8 0)) w.heap.size N (rowR (opK 1 S L) k (valR 1 S k (0 + 1))) := by
                    have h0 : (.int .u8 ((valR 1 S k (0 + 1)).toNat : Int) : Value) = .int .u8 0 := by rw [hcb]; rfl
                    rw [h0] at hset
                    exact hset
                  clear hset hcb
                  simp only [Nat.add_zero] at hcell
                  go_wp2
                  go_roundw
                  case rel => exact ⟨0 + 1, by omega, by go_num, hset2, hbi.setCell (Nat.le_refl _) _⟩
                  case measure => simp [intOf]; omega
              · have hv : valR 1 S k i = opK 1 S i k := if_neg hi0
                have hi1 : ((i : Int) == 0) = false := by rw [beq_eq_false_iff_ne]; omega
                rw [hv] at hca
                have hset := rowR_set (valR 1 S k (i + 1)) hra
                have hval : (.int .u8 ((valR 1 S k (i + 1)).toNat : Int) : Value) = .int .u8 (bits BinOp.and IntKind.u8 ((opK 1 S i k).toNat : Int) ((byteAt (S i) k).toNat : Int)) := by
                  rw [opbit_1, valR_succ, opK_succ _ _ _ _ (by omega)]
                rw [hval] at hset
                clear hval hv
                obtain ⟨a, ha⟩ : ∃ a, opK 1 S i k = a := ⟨_, rfl⟩
                rw [ha] at hca hset
                clear ha
                by_cases hks : k < (S i).size
                · rw [byteAt_eq _ hks] at hset
                  go_wp2
                  go_roundw
                  case rel => exact ⟨i + 1, by omega, by go_num, hset, hbi.setCell (Nat.le_refl _) _⟩
                  case measure => simp [intOf]; omega
                · rw [byteAt_out (by omega)] at hset
                  go_wp2
                  go_roundw
                  case rel => exact ⟨i + 1, by omega, by go_num, hset, hbi.setCell (Nat.le_refl _) _⟩
                  case measure => simp [intOf]; omega
            · obtain rfl : L = i := by omega
              go_wp2
              go_roundw
              case rel => exact ⟨k + 1, by omega, by go_num, hra.congr fun q _ => rowR_next (if_neg (by omega)) q, hbi⟩
              case measure => simp [intOf]; omega
        · obtain rfl : k = N := by omega
          have hkN : ¬ (k : Int) < (mxN S L : Int) := by have := HN.out; omega
          have hrb := hrow.congr (f' := opK 1 S L) fun i hi => rowR_all hi
          have hcv := BRow.string (P := Tryd.prog) 54 5 Tryd.underlying54 Tryd.underlying5 hrb k Tryd.underlying9
          go_wp2
          go_ret2
          exact ⟨by rw [HN.out]; rfl, hbw⟩

set_option maxRecDepth 100000 in
set_option maxHeartbeats 1600000 in
theorem refOp2_ok (g off cap L : Nat) (S : Nat → ByteArray) (hL : 1 ≤ L) (hm : L ≤ 9223372036854775807) (hS : ∀ j, j < L → (S j).size ≤ 140737488351232) (w : World) (hg : g < w.heap.size) (hc : ∀ j, j < L → w.cell? ⟨g, off + j, none⟩ = some (.string (S j))) :
    Calls Tryd.prog 26 #[.int .i64 2, .slice (some ⟨g, off, none⟩) L cap] w fun e w' => e = .returned (.tuple #[.string (str (Pl.row (mxN S L) (opK 2 S L))), .int .i64 0]) ∧ Below w.heap.size w w' := by
  have HC := Lib.hid hc
  have HS := Lib.hid hS
  clear hc hS
  go_enter Tryd.func26, Tryd.ntmps26
  go_wp2_with fail
  go_loop [6, 7] (fun n i => ∃ k : Nat, k ≤ L ∧ i = .int .i64 k ∧ n = .int .i64 (mxN S k : Int)) (fun _ i => L - (intOf i).toNat)
  case atStart => exact ⟨0, Nat.zero_le _, rfl, rfl⟩
  case round =>
    obtain ⟨k, hk, rfl, rfl⟩ := hrel
    by_cases hlt : k < L
    · have hcell := HC.out k hlt
      have hmx := mxN_le (S := S) (k := k) (b := 140737488351232) fun j hj => HS.out j (by omega)
      have hsk := HS.out k hlt
      go_wp2
      go_round
      case rel => exact ⟨k + 1, by omega, by go_num, by rw [mxN_succ]; congr 1; omega⟩
      case measure => simp [intOf]; omega
    · obtain rfl : L = k := by omega
      obtain ⟨N, hN⟩ : ∃ N, mxN S L = N := ⟨_, rfl⟩
      have hNle : N ≤ 140737488351232 := by rw [← hN]; exact mxN_le fun j hj => HS.out j hj
      have HN := Lib.hid hN
      clear hN
      go_wp2_with (refine wpList_make_bytes rfl (.tmp 45) (.tmp 45) _ rfl Tryd.underlying54 _ _ _ rfl rfl N ?_ ?_ ?_; (omega); (have := HN.out; omega); intro w1 hr1 hz1 hb1; have hB1 := hb1 _ _ (Below.refl _ _) (Nat.le_refl _); clear hb1)
      go_loopw [9] (fun i wr => ∃ k : Nat, k ≤ N ∧ i = .int .i64 k ∧ BRow wr w.heap.size N (rowR (opK 2 S L) k 0) ∧ Below w.heap.size w wr) (fun i _ => N - (intOf i).toNat)
      case atStart => exact ⟨0, Nat.zero_le _, rfl, hr1.congr fun i _ => (rowR_start _ i).symm, hB1⟩
      case round =>
        obtain ⟨wo, rfl⟩ : ∃ wo : World, wo = wr := ⟨_, rfl⟩
        obtain ⟨k, hk, rfl, hrow, hbw⟩ := hrel
        clear hr1 hB1 hz1
        by_cases hlt : k < N
        · have hkN : (k : Int) < (mxN S L : Int) := by have := HN.out; omega
          go_wp2_with fail
          go_loopw [10, 11] (fun i x wi => ∃ j : Nat, j ≤ L ∧ i = .int .i64 j ∧ BRow wi w.heap.size N (rowR (opK 2 S L) k (valR 2 S k j)) ∧ Below w.heap.size w wi) (fun i _ _ => L - (intOf i).toNat)
          case atStart => exact ⟨0, Nat.zero_le _, rfl, hrow, hbw⟩
          case round =>
            clear hrow hbw
            obtain ⟨i, hi, rfl, hra, hbi⟩ := hrel
            by_cases hil : i < L
            · have hcell := (hbi.cell (p := ⟨g, off + i, none⟩) hg).trans (HC.out i hil)
              have hsz := HS.out i hil
              have hca := hra.cell hlt
              have hfa := hra.frozen hlt
              rw [rowR_at] at hca
              by_cases hi0 : i = 0
              · subst hi0
                have hset := rowR_set (byteAt (S 0) k) hra
                rw [show byteAt (S 0) k = valR 2 S k (0 + 1) by rw [valR_succ]; exact (opK_one 2 S k).symm] at hset
                by_cases hks : k < (S 0).size
                · have hcb : valR 2 S k (0 + 1) = (S 0)[k] := by rw [valR_succ]; exact (opK_one 2 S k).trans (byteAt_eq _ hks)
                  have hset2 := hset
                  rw [show (.int .u8 ((valR 2 S k (0 + 1)).toNat : Int) : Value) = .int .u8 ((S 0)[k].toNat : Int) by rw [hcb]] at hset2
                  clear hset hcb
                  have hset := hset2
                  clear hset2
                  simp only [Nat.add_zero] at hcell
                  go_wp2
                  go_roundw
                  case rel => exact ⟨0 + 1, by omega, by go_num, hset, hbi.setCell (Nat.le_refl _) _⟩
                  case measure => simp [intOf]; omega
                · have hcb : valR 2 S k (0 + 1) = 0 := by rw [valR_succ]; exact (opK_one 2 S k).trans (byteAt_out (by omega))
                  have hset2 : BRow (wr.setCell ⟨w.heap.size, k, none⟩ (.int .u8 0)) w.heap.size N (rowR (opK 2 S L) k (valR 2 S k (0 + 1))) := by
                    have h0 : (.int .u8 ((valR 2 S k (0 + 1)).toNat : Int) : Value) = .int .u8 0 := by rw [hcb]; rfl
                    rw [h0] at hset
                    exact hset
                  clear hset hcb
                  simp only [Nat.add_zero] at hcell
                  go_wp2
                  go_roundw
                  case rel => exact ⟨0 + 1, by omega, by go_num, hset2, hbi.setCell (Nat.le_refl _) _⟩
                  case measure => simp [intOf]; omega
              · have hv : valR 2 S k i = opK 2 S i k := if_neg hi0
                have hi1 : ((i : Int) == 0) = false := by rw [beq_eq_false_iff_ne]; omega
                rw [hv] at hca
                have hset := rowR_set (valR 2 S k (i + 1)) hra
                have hval : (.int .u8 ((valR 2 S k (i + 1)).toNat : Int) : Value) = .int .u8 (bits BinOp.or IntKind.u8 ((opK 2 S i k).toNat : Int) ((byteAt (S i) k).toNat : Int)) := by
                  rw [opbit_2, valR_succ, opK_succ _ _ _ _ (by omega)]
                rw [hval] at hset
                clear hval hv
                obtain ⟨a, ha⟩ : ∃ a, opK 2 S i k = a := ⟨_, rfl⟩
                rw [ha] at hca hset
                clear ha
                by_cases hks : k < (S i).size
                · rw [byteAt_eq _ hks] at hset
                  go_wp2
                  go_roundw
                  case rel => exact ⟨i + 1, by omega, by go_num, hset, hbi.setCell (Nat.le_refl _) _⟩
                  case measure => simp [intOf]; omega
                · rw [byteAt_out (by omega)] at hset
                  go_wp2
                  go_roundw
                  case rel => exact ⟨i + 1, by omega, by go_num, hset, hbi.setCell (Nat.le_refl _) _⟩
                  case measure => simp [intOf]; omega
            · obtain rfl : L = i := by omega
              go_wp2
              go_roundw
              case rel => exact ⟨k + 1, by omega, by go_num, hra.congr fun q _ => rowR_next (if_neg (by omega)) q, hbi⟩
              case measure => simp [intOf]; omega
        · obtain rfl : k = N := by omega
          have hkN : ¬ (k : Int) < (mxN S L : Int) := by have := HN.out; omega
          have hrb := hrow.congr (f' := opK 2 S L) fun i hi => rowR_all hi
          have hcv := BRow.string (P := Tryd.prog) 54 5 Tryd.underlying54 Tryd.underlying5 hrb k Tryd.underlying9
          go_wp2
          go_ret2
          exact ⟨by rw [HN.out]; rfl, hbw⟩

set_option maxRecDepth 100000 in
set_option maxHeartbeats 1600000 in
theorem refOp3_ok (g off cap L : Nat) (S : Nat → ByteArray) (hL : 1 ≤ L) (hm : L ≤ 9223372036854775807) (hS : ∀ j, j < L → (S j).size ≤ 140737488351232) (w : World) (hg : g < w.heap.size) (hc : ∀ j, j < L → w.cell? ⟨g, off + j, none⟩ = some (.string (S j))) :
    Calls Tryd.prog 26 #[.int .i64 3, .slice (some ⟨g, off, none⟩) L cap] w fun e w' => e = .returned (.tuple #[.string (str (Pl.row (mxN S L) (opK 3 S L))), .int .i64 0]) ∧ Below w.heap.size w w' := by
  have HC := Lib.hid hc
  have HS := Lib.hid hS
  clear hc hS
  go_enter Tryd.func26, Tryd.ntmps26
  go_wp2_with fail
  go_loop [6, 7] (fun n i => ∃ k : Nat, k ≤ L ∧ i = .int .i64 k ∧ n = .int .i64 (mxN S k : Int)) (fun _ i => L - (intOf i).toNat)
  case atStart => exact ⟨0, Nat.zero_le _, rfl, rfl⟩
  case round =>
    obtain ⟨k, hk, rfl, rfl⟩ := hrel
    by_cases hlt : k < L
    · have hcell := HC.out k hlt
      have hmx := mxN_le (S := S) (k := k) (b := 140737488351232) fun j hj => HS.out j (by omega)
      have hsk := HS.out k hlt
      go_wp2
      go_round
      case rel => exact ⟨k + 1, by omega, by go_num, by rw [mxN_succ]; congr 1; omega⟩
      case measure => simp [intOf]; omega
    · obtain rfl : L = k := by omega
      obtain ⟨N, hN⟩ : ∃ N, mxN S L = N := ⟨_, rfl⟩
      have hNle : N ≤ 140737488351232 := by rw [← hN]; exact mxN_le fun j hj => HS.out j hj
      have HN := Lib.hid hN
      clear hN
      go_wp2_with (refine wpList_make_bytes rfl (.tmp 45) (.tmp 45) _ rfl Tryd.underlying54 _ _ _ rfl rfl N ?_ ?_ ?_; (omega); (have := HN.out; omega); intro w1 hr1 hz1 hb1; have hB1 := hb1 _ _ (Below.refl _ _) (Nat.le_refl _); clear hb1)
      go_loopw [9] (fun i wr => ∃ k : Nat, k ≤ N ∧ i = .int .i64 k ∧ BRow wr w.heap.size N (rowR (opK 3 S L) k 0) ∧ Below w.heap.size w wr) (fun i _ => N - (intOf i).toNat)
      case atStart => exact ⟨0, Nat.zero_le _, rfl, hr1.congr fun i _ => (rowR_start _ i).symm, hB1⟩
      case round =>
        obtain ⟨wo, rfl⟩ : ∃ wo : World, wo = wr := ⟨_, rfl⟩
        obtain ⟨k, hk, rfl, hrow, hbw⟩ := hrel
        clear hr1 hB1 hz1
        by_cases hlt : k < N
        · have hkN : (k : Int) < (mxN S L : Int) := by have := HN.out; omega
          go_wp2_with fail
          go_loopw [10, 11] (fun i x wi => ∃ j : Nat, j ≤ L ∧ i = .int .i64 j ∧ BRow wi w.heap.size N (rowR (opK 3 S L) k (valR 3 S k j)) ∧ Below w.heap.size w wi) (fun i _ _ => L - (intOf i).toNat)
          case atStart => exact ⟨0, Nat.zero_le _, rfl, hrow, hbw⟩
          case round =>
            clear hrow hbw
            obtain ⟨i, hi, rfl, hra, hbi⟩ := hrel
            by_cases hil : i < L
            · have hcell := (hbi.cell (p := ⟨g, off + i, none⟩) hg).trans (HC.out i hil)
              have hsz := HS.out i hil
              have hca := hra.cell hlt
              have hfa := hra.frozen hlt
              rw [rowR_at] at hca
              by_cases hi0 : i = 0
              · subst hi0
                have hset := rowR_set (byteAt (S 0) k) hra
                rw [show byteAt (S 0) k = valR 3 S k (0 + 1) by rw [valR_succ]; exact (opK_one 3 S k).symm] at hset
                by_cases hks : k < (S 0).size
                · have hcb : valR 3 S k (0 + 1) = (S 0)[k] := by rw [valR_succ]; exact (opK_one 3 S k).trans (byteAt_eq _ hks)
                  have hset2 := hset
                  rw [show (.int .u8 ((valR 3 S k (0 + 1)).toNat : Int) : Value) = .int .u8 ((S 0)[k].toNat : Int) by rw [hcb]] at hset2
                  clear hset hcb
                  have hset := hset2
                  clear hset2
                  simp only [Nat.add_zero] at hcell
                  go_wp2
                  go_roundw
                  case rel => exact ⟨0 + 1, by omega, by go_num, hset, hbi.setCell (Nat.le_refl _) _⟩
                  case measure => simp [intOf]; omega
                · have hcb : valR 3 S k (0 + 1) = 0 := by rw [valR_succ]; exact (opK_one 3 S k).trans (byteAt_out (by omega))
                  have hset2 : BRow (wr.setCell ⟨w.heap.size, k, none⟩ (.int .u8 0)) w.heap.size N (rowR (opK 3 S L) k (valR 3 S k (0 + 1))) := by
                    have h0 : (.int .u8 ((valR 3 S k (0 + 1)).toNat : Int) : Value) = .int .u8 0 := by rw [hcb]; rfl
                    rw [h0] at hset
                    exact hset
                  clear hset hcb
                  simp only [Nat.add_zero] at hcell
                  go_wp2
                  go_roundw
                  case rel => exact ⟨0 + 1, by omega, by go_num, hset2, hbi.setCell (Nat.le_refl _) _⟩
                  case measure => simp [intOf]; omega
              · have hv : valR 3 S k i = opK 3 S i k := if_neg hi0
                have hi1 : ((i : Int) == 0) = false := by rw [beq_eq_false_iff_ne]; omega
                rw [hv] at hca
                have hset := rowR_set (valR 3 S k (i + 1)) hra
                have hval : (.int .u8 ((valR 3 S k (i + 1)).toNat : Int) : Value) = .int .u8 (bits BinOp.xor IntKind.u8 ((opK 3 S i k).toNat : Int) ((byteAt (S i) k).toNat : Int)) := by
                  rw [opbit_3, valR_succ, opK_succ _ _ _ _ (by omega)]
                rw [hval] at hset
                clear hval hv
                obtain ⟨a, ha⟩ : ∃ a, opK 3 S i k = a := ⟨_, rfl⟩
                rw [ha] at hca hset
                clear ha
                by_cases hks : k < (S i).size
                · rw [byteAt_eq _ hks] at hset
                  go_wp2
                  go_roundw
                  case rel => exact ⟨i + 1, by omega, by go_num, hset, hbi.setCell (Nat.le_refl _) _⟩
                  case measure => simp [intOf]; omega
                · rw [byteAt_out (by omega)] at hset
                  go_wp2
                  go_roundw
                  case rel => exact ⟨i + 1, by omega, by go_num, hset, hbi.setCell (Nat.le_refl _) _⟩
                  case measure => simp [intOf]; omega
            · obtain rfl : L = i := by omega
              go_wp2
              go_roundw
              case rel => exact ⟨k + 1, by omega, by go_num, hra.congr fun q _ => rowR_next (if_neg (by omega)) q, hbi⟩
              case measure => simp [intOf]; omega
        · obtain rfl : k = N := by omega
          have hkN : ¬ (k : Int) < (mxN S L : Int) := by have := HN.out; omega
          have hrb := hrow.congr (f' := opK 3 S L) fun i hi => rowR_all hi
          have hcv := BRow.string (P := Tryd.prog) 54 5 Tryd.underlying54 Tryd.underlying5 hrb k Tryd.underlying9
          go_wp2
          go_ret2
          exact ⟨by rw [HN.out]; rfl, hbw⟩

set_option maxRecDepth 100000 in
set_option maxHeartbeats 1600000 in
theorem refOp4_ok (g off cap L : Nat) (S : Nat → ByteArray) (hL : 1 ≤ L) (hL2 : L ≤ 1) (hm : L ≤ 9223372036854775807) (hS : ∀ j, j < L → (S j).size ≤ 140737488351232) (w : World) (hg : g < w.heap.size) (hc : ∀ j, j < L → w.cell? ⟨g, off + j, none⟩ = some (.string (S j))) :
    Calls Tryd.prog 26 #[.int .i64 4, .slice (some ⟨g, off, none⟩) L cap] w fun e w' => e = .returned (.tuple #[.string (str (Pl.row (mxN S L) (notK S L))), .int .i64 0]) ∧ Below w.heap.size w w' := by
  have HC := Lib.hid hc
  have HS := Lib.hid hS
  clear hc hS
  have hg4 : decide ((1 : Int) < (L : Int)) = false := decide_eq_false (by omega)
  go_enter Tryd.func26, Tryd.ntmps26
  go_wp2_with fail
  go_loop [6, 7] (fun n i => ∃ k : Nat, k ≤ L ∧ i = .int .i64 k ∧ n = .int .i64 (mxN S k : Int)) (fun _ i => L - (intOf i).toNat)
  case atStart => exact ⟨0, Nat.zero_le _, rfl, rfl⟩
  case round =>
    obtain ⟨k, hk, rfl, rfl⟩ := hrel
    by_cases hlt : k < L
    · have hcell := HC.out k hlt
      have hmx := mxN_le (S := S) (k := k) (b := 140737488351232) fun j hj => HS.out j (by omega)
      have hsk := HS.out k hlt
      go_wp2
      go_round
      case rel => exact ⟨k + 1, by omega, by go_num, by rw [mxN_succ]; congr 1; omega⟩
      case measure => simp [intOf]; omega
    · obtain rfl : L = k := by omega
      obtain ⟨N, hN⟩ : ∃ N, mxN S L = N := ⟨_, rfl⟩
      have hNle : N ≤ 140737488351232 := by rw [← hN]; exact mxN_le fun j hj => HS.out j hj
      have HN := Lib.hid hN
      clear hN
      go_wp2_with (refine wpList_make_bytes rfl (.tmp 45) (.tmp 45) _ rfl Tryd.underlying54 _ _ _ rfl rfl N ?_ ?_ ?_; (omega); (have := HN.out; omega); intro w1 hr1 hz1 hb1; have hB1 := hb1 _ _ (Below.refl _ _) (Nat.le_refl _); clear hb1)
      go_loopw [9] (fun i wr => ∃ k : Nat, k ≤ N ∧ i = .int .i64 k ∧ BRow wr w.heap.size N (rowR (notK S L) k 0) ∧ Below w.heap.size w wr) (fun i _ => N - (intOf i).toNat)
      case atStart => exact ⟨0, Nat.zero_le _, rfl, hr1.congr fun i _ => (rowR_start _ i).symm, hB1⟩
      case round =>
        obtain ⟨wo, rfl⟩ : ∃ wo : World, wo = wr := ⟨_, rfl⟩
        obtain ⟨k, hk, rfl, hrow, hbw⟩ := hrel
        clear hr1 hB1 hz1
        by_cases hlt : k < N
        · have hkN : (k : Int) < (mxN S L : Int) := by have := HN.out; omega
          go_wp2_with fail
          go_loopw [10, 11] (fun i x wi => ∃ j : Nat, j ≤ L ∧ i = .int .i64 j ∧ BRow wi w.heap.size N (rowR (notK S L) k (valR 4 S k j)) ∧ Below w.heap.size w wi) (fun i _ _ => L - (intOf i).toNat)
          case atStart => exact ⟨0, Nat.zero_le _, rfl, hrow, hbw⟩
          case round =>
            clear hrow hbw
            obtain ⟨i, hi, rfl, hra, hbi⟩ := hrel
            by_cases hil : i < L
            · have hcell := (hbi.cell (p := ⟨g, off + i, none⟩) hg).trans (HC.out i hil)
              have hsz := HS.out i hil
              have hca := hra.cell hlt
              have hfa := hra.frozen hlt
              rw [rowR_at] at hca
              by_cases hi0 : i = 0
              · subst hi0
                have hset := rowR_set (byteAt (S 0) k) hra
                rw [show byteAt (S 0) k = valR 4 S k (0 + 1) by rw [valR_succ]; exact (opK_one 4 S k).symm] at hset
                by_cases hks : k < (S 0).size
                · have hcb : valR 4 S k (0 + 1) = (S 0)[k] := by rw [valR_succ]; exact (opK_one 4 S k).trans (byteAt_eq _ hks)
                  have hset2 := hset
                  rw [show (.int .u8 ((valR 4 S k (0 + 1)).toNat : Int) : Value) = .int .u8 ((S 0)[k].toNat : Int) by rw [hcb]] at hset2
                  clear hset hcb
                  have hset := hset2
                  clear hset2
                  simp only [Nat.add_zero] at hcell
                  go_wp2
                  go_roundw
                  case rel => exact ⟨0 + 1, by omega, by go_num, hset, hbi.setCell (Nat.le_refl _) _⟩
                  case measure => simp [intOf]; omega
                · have hcb : valR 4 S k (0 + 1) = 0 := by rw [valR_succ]; exact (opK_one 4 S k).trans (byteAt_out (by omega))
                  have hset2 : BRow (wr.setCell ⟨w.heap.size, k, none⟩ (.int .u8 0)) w.heap.size N (rowR (notK S L) k (valR 4 S k (0 + 1))) := by
                    have h0 : (.int .u8 ((valR 4 S k (0 + 1)).toNat : Int) : Value) = .int .u8 0 := by rw [hcb]; rfl
                    rw [h0] at hset
                    exact hset
                  clear hset hcb
                  simp only [Nat.add_zero] at hcell
                  go_wp2
                  go_roundw
                  case rel => exact ⟨0 + 1, by omega, by go_num, hset2, hbi.setCell (Nat.le_refl _) _⟩
                  case measure => simp [intOf]; omega
              · omega
            · obtain rfl : L = i := by omega
              have hca := hra.cell hlt
              have hfa := hra.frozen hlt
              rw [rowR_at] at hca
              have hv : valR 4 S k L = opK 4 S L k := if_neg (by omega)
              rw [hv] at hca
              have hset := rowR_set (notK S L k) hra
              have hset2 := hset.congr fun q _ => rowR_next rfl q
              clear hset hv
              have hx := sub255 (opK 4 S L k) (notK S L k) rfl
              obtain ⟨a, ha⟩ : ∃ a, opK 4 S L k = a := ⟨_, rfl⟩
              rw [ha] at hca hx
              rw [← hx] at hset2
              clear ha hx
              go_wp2
              go_roundw
              case rel => exact ⟨k + 1, by omega, by go_num, hset2, hbi.setCell (Nat.le_refl _) _⟩
              case measure => simp [intOf]; omega
        · obtain rfl : k = N := by omega
          have hkN : ¬ (k : Int) < (mxN S L : Int) := by have := HN.out; omega
          have hrb := hrow.congr (f' := notK S L) fun i hi => rowR_all hi
          have hcv := BRow.string (P := Tryd.prog) 54 5 Tryd.underlying54 Tryd.underlying5 hrb k Tryd.underlying9
          go_wp2
          go_ret2
          exact ⟨by rw [HN.out]; rfl, hbw⟩
end Go.Proofs.YtgdebcpnihibjaaDoor
