/- The walk of blob.Op. -/
import Derived.Test.YtgdebcpnihibjaaDoorBlob6
import Derived.StillTailTactics
namespace Go.Proofs.YtgdebcpnihibjaaDoor
open Go.ChangeShapes Go.WideShapes Go.ChangeAt Go.RowKit
set_option linter.unusedVariables false

/-- The first k of the texts. -/
def lsN (S : Nat → ByteArray) (k : Nat) : List (List UInt8) := (List.range k).map fun j => (S j).data.toList
theorem lsN_succ (S : Nat → ByteArray) (k : Nat) : lsN S (k + 1) = lsN S k ++ [(S k).data.toList] := by simp [lsN, List.range_succ]
def mxN (S : Nat → ByteArray) (k : Nat) : Nat := Pl.maxL (lsN S k)
theorem mxN_succ (S : Nat → ByteArray) (k : Nat) : mxN S (k + 1) = max (mxN S k) (S k).size := by
  unfold mxN
  rw [lsN_succ, Pl.maxL_snoc, len_toList]
theorem mxN_le {S : Nat → ByteArray} {k b : Nat} (h : ∀ j, j < k → (S j).size ≤ b) : mxN S k ≤ b := by
  refine Pl.maxL_le fun l hl => ?_
  obtain ⟨j, hj, rfl⟩ := List.mem_map.1 hl
  rw [len_toList]
  exact h j (List.mem_range.1 hj)
theorem le_mxN (S : Nat → ByteArray) {k j : Nat} (h : j < k) : (S j).size ≤ mxN S k := by
  have := Pl.le_maxL (ls := lsN S k) (l := (S j).data.toList) (List.mem_map.2 ⟨j, List.mem_range.2 h, rfl⟩)
  rwa [len_toList] at this
def opK (op : Int) (S : Nat → ByteArray) (k : Nat) : Nat → UInt8 := Pl.opF op (lsN S k)
theorem opK_one (op : Int) (S : Nat → ByteArray) (i : Nat) : opK op S 1 i = byteAt (S 0) i := rfl
theorem opK_succ (op : Int) (S : Nat → ByteArray) (k i : Nat) (hk : 1 ≤ k) : opK op S (k + 1) i = Pl.opB op (opK op S k i) (byteAt (S k) i) := by
  unfold opK
  rw [lsN_succ, Pl.opF_snoc _ _ _ _ (fun e => by have := congrArg List.length e; simp [lsN] at this; omega)]
  rfl
/-- The row in the midst of the k-th text: j bytes done. -/
def midK (op : Int) (S : Nat → ByteArray) (k j : Nat) : Nat → UInt8 := fun q => if q < j then opK op S (k + 1) q else opK op S k q
theorem midK_zero (op : Int) (S : Nat → ByteArray) (k q : Nat) : midK op S k 0 q = opK op S k q := rfl
theorem midK_all {op : Int} {S : Nat → ByteArray} {k n q : Nat} (h : q < n) : midK op S k n q = opK op S (k + 1) q := if_pos h
theorem midK_at (op : Int) (S : Nat → ByteArray) (k j : Nat) : midK op S k j j = opK op S k j := if_neg (Nat.lt_irrefl _)
theorem midK_set {op : Int} {S : Nat → ByteArray} {k j : Nat} {w : World} {g n : Nat} (h : BRow w g n (midK op S k j)) (hk : 1 ≤ k) : BRow (w.setCell ⟨g, j, none⟩ (.int .u8 ((Pl.opB op (opK op S k j) (byteAt (S k) j)).toNat : Int))) g n (midK op S k (j + 1)) := by
  refine (h.set j _).congr fun i _ => ?_
  unfold midK
  by_cases e : i = j
  · subst e
    rw [if_pos rfl, if_pos (by omega), opK_succ _ _ _ _ hk]
  · rw [if_neg e]
    by_cases h2 : i < j
    · rw [if_pos h2, if_pos (by omega)]
    · rw [if_neg h2, if_neg (by omega)]

theorem ofInt8 (a : UInt8) : (BitVec.ofInt 8 (a.toNat : Int)).toNat = a.toNat := by
  rw [BitVec.ofInt_natCast, BitVec.toNat_ofNat]; exact Nat.mod_eq_of_lt (by have := a.toNat_lt; omega)
theorem wrap_u8' (n : Nat) (h : n < 256) : IntKind.u8.wrap (n : Int) = n := by unfold IntKind.wrap; simp [IntKind.signed, IntKind.bits]; omega
theorem opbit_1 (a b : UInt8) : bits BinOp.and IntKind.u8 (a.toNat : Int) (b.toNat : Int) = ((Pl.opB 1 a b).toNat : Int) := by
  show IntKind.u8.wrap ((BitVec.ofInt 8 (a.toNat : Int) &&& BitVec.ofInt 8 (b.toNat : Int)).toNat : Int) = _
  rw [BitVec.toNat_and, ofInt8, ofInt8, show Pl.opB 1 a b = a &&& b from rfl, UInt8.toNat_and]
  exact wrap_u8' _ (Nat.and_lt_two_pow (n := 8) _ b.toNat_lt)
theorem opbit_2 (a b : UInt8) : bits BinOp.or IntKind.u8 (a.toNat : Int) (b.toNat : Int) = ((Pl.opB 2 a b).toNat : Int) := by
  show IntKind.u8.wrap ((BitVec.ofInt 8 (a.toNat : Int) ||| BitVec.ofInt 8 (b.toNat : Int)).toNat : Int) = _
  rw [BitVec.toNat_or, ofInt8, ofInt8, show Pl.opB 2 a b = a ||| b from rfl, UInt8.toNat_or]
  exact wrap_u8' _ (Nat.or_lt_two_pow (n := 8) a.toNat_lt b.toNat_lt)
theorem opbit_3 (a b : UInt8) : bits BinOp.xor IntKind.u8 (a.toNat : Int) (b.toNat : Int) = ((Pl.opB 3 a b).toNat : Int) := by
  show IntKind.u8.wrap ((BitVec.ofInt 8 (a.toNat : Int) ^^^ BitVec.ofInt 8 (b.toNat : Int)).toNat : Int) = _
  rw [BitVec.toNat_xor, ofInt8, ofInt8, show Pl.opB 3 a b = a ^^^ b from rfl, UInt8.toNat_xor]
  exact wrap_u8' _ (Nat.xor_lt_two_pow (n := 8) a.toNat_lt b.toNat_lt)

set_option maxRecDepth 100000 in
set_option maxHeartbeats 1600000 in
theorem op1_ok (g off cap L : Nat) (S : Nat → ByteArray) (hL : 2 ≤ L) (hcap : L ≤ cap) (hm : cap ≤ 9223372036854775807) (hS : ∀ j, j < L → (S j).size ≤ 140737488351232) (w : World) (hg : g < w.heap.size) (hc : ∀ j, j < L → w.cell? ⟨g, off + j, none⟩ = some (.string (S j))) :
    Calls Tryd.prog 25 #[.int .i64 1, .slice (some ⟨g, off, none⟩) L cap] w fun e w' => e = .returned (.tuple #[.string (str (Pl.row (mxN S L) (opK 1 S L))), .int .i64 0]) ∧ Below w.heap.size w w' := by
  have HC := Lib.hid hc
  have HC0 : Hid (w.cell? ⟨g, off, none⟩ = some (.string (S 0))) := hc 0 (by omega)
  have HS := Lib.hid hS
  clear hc hS
  go_enter Tryd.func25, Tryd.ntmps25
  go_wp2_with fail
  go_loop [6, 8, 37] (fun n s i => ∃ k : Nat, k ≤ L ∧ i = .int .i64 k ∧ n = .int .i64 (mxN S k : Int)) (fun _ _ i => L - (intOf i).toNat)
  case atStart => exact ⟨0, Nat.zero_le _, rfl, rfl⟩
  case round =>
    obtain ⟨k, hk, rfl, rfl⟩ := hrel
    by_cases hlt : k < L
    · have hcell := HC.out k hlt
      have hmx := mxN_le (S := S) (k := k) (b := 140737488351232) fun j hj => HS.out j (by omega)
      have hsk := HS.out k hlt
      go_wp2
      go_round
      case rel => exact ⟨k + 1, by omega, by go_num, by rw [mxN_succ]; congr 1; omega⟩
      case measure => simp [intOf]; omega
    · obtain rfl : L = k := by omega
      obtain ⟨N, hN⟩ : ∃ N, mxN S L = N := ⟨_, rfl⟩
      have hNle : N ≤ 140737488351232 := by rw [← hN]; exact mxN_le fun j hj => HS.out j hj
      have h0le : (S 0).size ≤ N := by rw [← hN]; exact le_mxN S (by omega)
      have HN := Lib.hid hN
      clear hN
      go_wp2_with (first
        | (refine wpList_make_bytes rfl (.tmp 46) (.tmp 46) _ rfl Tryd.underlying54 _ _ _ rfl rfl N ?_ ?_ ?_; (omega); (have := HN.out; omega); intro w1 hr1 hz1 hb1; have hB1 := hb1 _ _ (Below.refl _ _) (Nat.le_refl _); clear hb1; have hc0 := (hB1.cell (p := ⟨g, off, none⟩) hg).trans HC0.out)
        | (refine wpList_copy_text rfl (.tmp 48) (.tmp 51) _ _ rfl _ Tryd.underlying54 u8size _ _ _ _ N (S 0) _ hr1 rfl rfl ?_ ?_ ?_; (omega); (omega); intro w2 hr2' hz2 hb2; have hB2 := hb2 _ _ hB1 (Nat.le_refl _); clear hb2; have hr2 := hr2'.congr (f' := opK 1 S 1) fun i _ => (layO_zero (S 0) i).trans (opK_one 1 S i).symm; clear hr2'))
      clear hr1 hz1 hB1 hc0 h0le hz2
      go_loopw [56] (fun i wr => ∃ k : Nat, k ≤ L - 1 ∧ i = .int .i64 k ∧ BRow wr w.heap.size N (opK 1 S (k + 1)) ∧ Below w.heap.size w wr) (fun i _ => L - 1 - (intOf i).toNat)
      case atStart => exact ⟨0, Nat.zero_le _, rfl, hr2, hB2⟩
      case round =>
        obtain ⟨wo, rfl⟩ : ∃ wo : World, wo = wr := ⟨_, rfl⟩
        obtain ⟨k, hk, rfl, hrow, hbw⟩ := hrel
        clear hr2 hB2
        by_cases hlt : k < L - 1
        · have hcell := (hbw.cell (p := ⟨g, off + (k + 1), none⟩) hg).trans (HC.out (k + 1) (by omega))
          rw [show off + (k + 1) = off + 1 + k by omega] at hcell
          have hsN : (S (k + 1)).size ≤ N := by rw [← HN.out]; exact le_mxN S (by omega)
          have hgo := hrow.lt
          go_wp2_with (first
            | (refine wpList_make_bytes rfl (.tmp 60) (.tmp 60) _ rfl Tryd.underlying54 _ _ _ rfl rfl N ?_ ?_ ?_; (omega); (have := HN.out; omega); intro w3 hr3 hz3 hb3; have hB3 := hb3 _ _ (Below.refl _ _) (Nat.le_refl _); clear hb3)
            | (refine wpList_copy_text rfl (.tmp 62) (.tmp 63) _ _ rfl _ Tryd.underlying54 u8size _ _ _ _ N (S (k + 1)) _ hr3 rfl rfl ?_ ?_ ?_; (omega); (omega); intro w4 hr4' hz4 hb4; have hB4 := hb4 _ _ hB3 (Nat.le_refl _); clear hb4; have hr4 := hr4'.congr (f' := byteAt (S (k + 1))) fun i _ => layO_zero (S (k + 1)) i; clear hr4'))
          have hout := (hrow.below hB4 hgo).congr (f' := midK 1 S (k + 1) 0) fun i _ => (midK_zero 1 S (k + 1) i).symm
          have hbw4 := hbw.trans (hB4.mono hbw.size)
          go_loopw [67, 13] (fun i x wi => ∃ j : Nat, j ≤ N ∧ i = .int .i64 j ∧ BRow wi w.heap.size N (midK 1 S (k + 1) j) ∧ BRow wi wo.heap.size N (byteAt (S (k + 1))) ∧ Below w.heap.size w wi) (fun i _ _ => N - (intOf i).toNat)
          case atStart => exact ⟨0, Nat.zero_le _, rfl, hout, hr4, hbw4⟩
          case round =>
            obtain ⟨j, hj, rfl, hra, hrb, hbi⟩ := hrel
            by_cases hjl : j < N
            · have hca := hra.cell hjl
              have hcb := hrb.cell hjl
              have hfa := hra.frozen hjl
              rw [midK_at] at hca
              have hset := midK_set hra (by omega)
              rw [← opbit_1] at hset
              obtain ⟨a, ha⟩ : ∃ a, opK 1 S (k + 1) j = a := ⟨_, rfl⟩
              obtain ⟨b, hb⟩ : ∃ b, byteAt (S (k + 1)) j = b := ⟨_, rfl⟩
              rw [ha] at hca hset
              rw [hb] at hcb hset
              clear ha hb
              have hj1 : (0 : Int) ≤ (j : Int) := by omega
              have hj2 : (j : Int) < (N : Int) := by omega
              go_wp2_with fail
              go_still_tail 10, (by kernel_rfl)
              go_wp2
              go_roundw
              case rel => exact ⟨j + 1, by omega, by go_num, hset.drew, (hrb.far (p := ⟨w.heap.size, j, none⟩) (by show wo.heap.size ≠ w.heap.size; omega) _).drew, (hbi.setCell (Nat.le_refl _) _).drew⟩
              case measure => simp [intOf]; omega
            · obtain rfl : j = N := by omega
              go_wp2
              go_roundw
              case rel => exact ⟨k + 1, by omega, by go_num, hra.congr fun i hi => midK_all hi, hbi⟩
              case measure => simp [intOf]; omega
        · have hk1 : k + 1 = L := by omega
          rw [hk1] at hrow
          have hcv := BRow.string (P := Tryd.prog) 54 5 Tryd.underlying54 Tryd.underlying5 hrow N Tryd.underlying9
          clear hk1
          go_wp2
          go_ret2
          exact ⟨by rw [HN.out]; rfl, hbw⟩

set_option maxRecDepth 100000 in
set_option maxHeartbeats 1600000 in
theorem op2_ok (g off cap L : Nat) (S : Nat → ByteArray) (hL : 2 ≤ L) (hcap : L ≤ cap) (hm : cap ≤ 9223372036854775807) (hS : ∀ j, j < L → (S j).size ≤ 140737488351232) (w : World) (hg : g < w.heap.size) (hc : ∀ j, j < L → w.cell? ⟨g, off + j, none⟩ = some (.string (S j))) :
    Calls Tryd.prog 25 #[.int .i64 2, .slice (some ⟨g, off, none⟩) L cap] w fun e w' => e = .returned (.tuple #[.string (str (Pl.row (mxN S L) (opK 2 S L))), .int .i64 0]) ∧ Below w.heap.size w w' := by
  have HC := Lib.hid hc
  have HC0 : Hid (w.cell? ⟨g, off, none⟩ = some (.string (S 0))) := hc 0 (by omega)
  have HS := Lib.hid hS
  clear hc hS
  go_enter Tryd.func25, Tryd.ntmps25
  go_wp2_with fail
  go_loop [6, 8, 37] (fun n s i => ∃ k : Nat, k ≤ L ∧ i = .int .i64 k ∧ n = .int .i64 (mxN S k : Int)) (fun _ _ i => L - (intOf i).toNat)
  case atStart => exact ⟨0, Nat.zero_le _, rfl, rfl⟩
  case round =>
    obtain ⟨k, hk, rfl, rfl⟩ := hrel
    by_cases hlt : k < L
    · have hcell := HC.out k hlt
      have hmx := mxN_le (S := S) (k := k) (b := 140737488351232) fun j hj => HS.out j (by omega)
      have hsk := HS.out k hlt
      go_wp2
      go_round
      case rel => exact ⟨k + 1, by omega, by go_num, by rw [mxN_succ]; congr 1; omega⟩
      case measure => simp [intOf]; omega
    · obtain rfl : L = k := by omega
      obtain ⟨N, hN⟩ : ∃ N, mxN S L = N := ⟨_, rfl⟩
      have hNle : N ≤ 140737488351232 := by rw [← hN]; exact mxN_le fun j hj => HS.out j hj
      have h0le : (S 0).size ≤ N := by rw [← hN]; exact le_mxN S (by omega)
      have HN := Lib.hid hN
      clear hN
      go_wp2_with (first
        | (refine wpList_make_bytes rfl (.tmp 46) (.tmp 46) _ rfl Tryd.underlying54 _ _ _ rfl rfl N ?_ ?_ ?_; (omega); (have := HN.out; omega); intro w1 hr1 hz1 hb1; have hB1 := hb1 _ _ (Below.refl _ _) (Nat.le_refl _); clear hb1; have hc0 := (hB1.cell (p := ⟨g, off, none⟩) hg).trans HC0.out)
        | (refine wpList_copy_text rfl (.tmp 48) (.tmp 51) _ _ rfl _ Tryd.underlying54 u8size _ _ _ _ N (S 0) _ hr1 rfl rfl ?_ ?_ ?_; (omega); (omega); intro w2 hr2' hz2 hb2; have hB2 := hb2 _ _ hB1 (Nat.le_refl _); clear hb2; have hr2 := hr2'.congr (f' := opK 2 S 1) fun i _ => (layO_zero (S 0) i).trans (opK_one 2 S i).symm; clear hr2'))
      clear hr1 hz1 hB1 hc0 h0le hz2
      go_loopw [56] (fun i wr => ∃ k : Nat, k ≤ L - 1 ∧ i = .int .i64 k ∧ BRow wr w.heap.size N (opK 2 S (k + 1)) ∧ Below w.heap.size w wr) (fun i _ => L - 1 - (intOf i).toNat)
      case atStart => exact ⟨0, Nat.zero_le _, rfl, hr2, hB2⟩
      case round =>
        obtain ⟨wo, rfl⟩ : ∃ wo : World, wo = wr := ⟨_, rfl⟩
        obtain ⟨k, hk, rfl, hrow, hbw⟩ := hrel
        clear hr2 hB2
        by_cases hlt : k < L - 1
        · have hcell := (hbw.cell (p := ⟨g, off + (k + 1), none⟩) hg).trans (HC.out (k + 1) (by omega))
          rw [show off + (k + 1) = off + 1 + k by omega] at hcell
          have hsN : (S (k + 1)).size ≤ N := by rw [← HN.out]; exact le_mxN S (by omega)
          have hgo := hrow.lt
          go_wp2_with (first
            | (refine wpList_make_bytes rfl (.tmp 60) (.tmp 60) _ rfl Tryd.underlying54 _ _ _ rfl rfl N ?_ ?_ ?_; (omega); (have := HN.out; omega); intro w3 hr3 hz3 hb3; have hB3 := hb3 _ _ (Below.refl _ _) (Nat.le_refl _); clear hb3)
            | (refine wpList_copy_text rfl (.tmp 62) (.tmp 63) _ _ rfl _ Tryd.underlying54 u8size _ _ _ _ N (S (k + 1)) _ hr3 rfl rfl ?_ ?_ ?_; (omega); (omega); intro w4 hr4' hz4 hb4; have hB4 := hb4 _ _ hB3 (Nat.le_refl _); clear hb4; have hr4 := hr4'.congr (f' := byteAt (S (k + 1))) fun i _ => layO_zero (S (k + 1)) i; clear hr4'))
          have hout := (hrow.below hB4 hgo).congr (f' := midK 2 S (k + 1) 0) fun i _ => (midK_zero 2 S (k + 1) i).symm
          have hbw4 := hbw.trans (hB4.mono hbw.size)
          go_loopw [67, 13] (fun i x wi => ∃ j : Nat, j ≤ N ∧ i = .int .i64 j ∧ BRow wi w.heap.size N (midK 2 S (k + 1) j) ∧ BRow wi wo.heap.size N (byteAt (S (k + 1))) ∧ Below w.heap.size w wi) (fun i _ _ => N - (intOf i).toNat)
          case atStart => exact ⟨0, Nat.zero_le _, rfl, hout, hr4, hbw4⟩
          case round =>
            obtain ⟨j, hj, rfl, hra, hrb, hbi⟩ := hrel
            by_cases hjl : j < N
            · have hca := hra.cell hjl
              have hcb := hrb.cell hjl
              have hfa := hra.frozen hjl
              rw [midK_at] at hca
              have hset := midK_set hra (by omega)
              rw [← opbit_2] at hset
              obtain ⟨a, ha⟩ : ∃ a, opK 2 S (k + 1) j = a := ⟨_, rfl⟩
              obtain ⟨b, hb⟩ : ∃ b, byteAt (S (k + 1)) j = b := ⟨_, rfl⟩
              rw [ha] at hca hset
              rw [hb] at hcb hset
              clear ha hb
              have hj1 : (0 : Int) ≤ (j : Int) := by omega
              have hj2 : (j : Int) < (N : Int) := by omega
              go_wp2_with fail
              go_still_tail 10, (by kernel_rfl)
              go_wp2
              go_roundw
              case rel => exact ⟨j + 1, by omega, by go_num, hset.drew, (hrb.far (p := ⟨w.heap.size, j, none⟩) (by show wo.heap.size ≠ w.heap.size; omega) _).drew, (hbi.setCell (Nat.le_refl _) _).drew⟩
              case measure => simp [intOf]; omega
            · obtain rfl : j = N := by omega
              go_wp2
              go_roundw
              case rel => exact ⟨k + 1, by omega, by go_num, hra.congr fun i hi => midK_all hi, hbi⟩
              case measure => simp [intOf]; omega
        · have hk1 : k + 1 = L := by omega
          rw [hk1] at hrow
          have hcv := BRow.string (P := Tryd.prog) 54 5 Tryd.underlying54 Tryd.underlying5 hrow N Tryd.underlying9
          clear hk1
          go_wp2
          go_ret2
          exact ⟨by rw [HN.out]; rfl, hbw⟩

set_option maxRecDepth 100000 in
set_option maxHeartbeats 1600000 in
theorem op3_ok (g off cap L : Nat) (S : Nat → ByteArray) (hL : 2 ≤ L) (hcap : L ≤ cap) (hm : cap ≤ 9223372036854775807) (hS : ∀ j, j < L → (S j).size ≤ 140737488351232) (w : World) (hg : g < w.heap.size) (hc : ∀ j, j < L → w.cell? ⟨g, off + j, none⟩ = some (.string (S j))) :
    Calls Tryd.prog 25 #[.int .i64 3, .slice (some ⟨g, off, none⟩) L cap] w fun e w' => e = .returned (.tuple #[.string (str (Pl.row (mxN S L) (opK 3 S L))), .int .i64 0]) ∧ Below w.heap.size w w' := by
  have HC := Lib.hid hc
  have HC0 : Hid (w.cell? ⟨g, off, none⟩ = some (.string (S 0))) := hc 0 (by omega)
  have HS := Lib.hid hS
  clear hc hS
  go_enter Tryd.func25, Tryd.ntmps25
  go_wp2_with fail
  go_loop [6, 8, 37] (fun n s i => ∃ k : Nat, k ≤ L ∧ i = .int .i64 k ∧ n = .int .i64 (mxN S k : Int)) (fun _ _ i => L - (intOf i).toNat)
  case atStart => exact ⟨0, Nat.zero_le _, rfl, rfl⟩
  case round =>
    obtain ⟨k, hk, rfl, rfl⟩ := hrel
    by_cases hlt : k < L
    · have hcell := HC.out k hlt
      have hmx := mxN_le (S := S) (k := k) (b := 140737488351232) fun j hj => HS.out j (by omega)
      have hsk := HS.out k hlt
      go_wp2
      go_round
      case rel => exact ⟨k + 1, by omega, by go_num, by rw [mxN_succ]; congr 1; omega⟩
      case measure => simp [intOf]; omega
    · obtain rfl : L = k := by omega
      obtain ⟨N, hN⟩ : ∃ N, mxN S L = N := ⟨_, rfl⟩
      have hNle : N ≤ 140737488351232 := by rw [← hN]; exact mxN_le fun j hj => HS.out j hj
      have h0le : (S 0).size ≤ N := by rw [← hN]; exact le_mxN S (by omega)
      have HN := Lib.hid hN
      clear hN
      go_wp2_with (first
        | (refine wpList_make_bytes rfl (.tmp 46) (.tmp 46) _ rfl Tryd.underlying54 _ _ _ rfl rfl N ?_ ?_ ?_; (omega); (have := HN.out; omega); intro w1 hr1 hz1 hb1; have hB1 := hb1 _ _ (Below.refl _ _) (Nat.le_refl _); clear hb1; have hc0 := (hB1.cell (p := ⟨g, off, none⟩) hg).trans HC0.out)
        | (refine wpList_copy_text rfl (.tmp 48) (.tmp 51) _ _ rfl _ Tryd.underlying54 u8size _ _ _ _ N (S 0) _ hr1 rfl rfl ?_ ?_ ?_; (omega); (omega); intro w2 hr2' hz2 hb2; have hB2 := hb2 _ _ hB1 (Nat.le_refl _); clear hb2; have hr2 := hr2'.congr (f' := opK 3 S 1) fun i _ => (layO_zero (S 0) i).trans (opK_one 3 S i).symm; clear hr2'))
      clear hr1 hz1 hB1 hc0 h0le hz2
      go_loopw [56] (fun i wr => ∃ k : Nat, k ≤ L - 1 ∧ i = .int .i64 k ∧ BRow wr w.heap.size N (opK 3 S (k + 1)) ∧ Below w.heap.size w wr) (fun i _ => L - 1 - (intOf i).toNat)
      case atStart => exact ⟨0, Nat.zero_le _, rfl, hr2, hB2⟩
      case round =>
        obtain ⟨wo, rfl⟩ : ∃ wo : World, wo = wr := ⟨_, rfl⟩
        obtain ⟨k, hk, rfl, hrow, hbw⟩ := hrel
        clear hr2 hB2
        by_cases hlt : k < L - 1
        · have hcell := (hbw.cell (p := ⟨g, off + (k + 1), none⟩) hg).trans (HC.out (k + 1) (by omega))
          rw [show off + (k + 1) = off + 1 + k by omega] at hcell
          have hsN : (S (k + 1)).size ≤ N := by rw [← HN.out]; exact le_mxN S (by omega)
          have hgo := hrow.lt
          go_wp2_with (first
            | (refine wpList_make_bytes rfl (.tmp 60) (.tmp 60) _ rfl Tryd.underlying54 _ _ _ rfl rfl N ?_ ?_ ?_; (omega); (have := HN.out; omega); intro w3 hr3 hz3 hb3; have hB3 := hb3 _ _ (Below.refl _ _) (Nat.le_refl _); clear hb3)
            | (refine wpList_copy_text rfl (.tmp 62) (.tmp 63) _ _ rfl _ Tryd.underlying54 u8size _ _ _ _ N (S (k + 1)) _ hr3 rfl rfl ?_ ?_ ?_; (omega); (omega); intro w4 hr4' hz4 hb4; have hB4 := hb4 _ _ hB3 (Nat.le_refl _); clear hb4; have hr4 := hr4'.congr (f' := byteAt (S (k + 1))) fun i _ => layO_zero (S (k + 1)) i; clear hr4'))
          have hout := (hrow.below hB4 hgo).congr (f' := midK 3 S (k + 1) 0) fun i _ => (midK_zero 3 S (k + 1) i).symm
          have hbw4 := hbw.trans (hB4.mono hbw.size)
          go_loopw [67, 13] (fun i x wi => ∃ j : Nat, j ≤ N ∧ i = .int .i64 j ∧ BRow wi w.heap.size N (midK 3 S (k + 1) j) ∧ BRow wi wo.heap.size N (byteAt (S (k + 1))) ∧ Below w.heap.size w wi) (fun i _ _ => N - (intOf i).toNat)
          case atStart => exact ⟨0, Nat.zero_le _, rfl, hout, hr4, hbw4⟩
          case round =>
            obtain ⟨j, hj, rfl, hra, hrb, hbi⟩ := hrel
            by_cases hjl : j < N
            · have hca := hra.cell hjl
              have hcb := hrb.cell hjl
              have hfa := hra.frozen hjl
              rw [midK_at] at hca
              have hset := midK_set hra (by omega)
              rw [← opbit_3] at hset
              obtain ⟨a, ha⟩ : ∃ a, opK 3 S (k + 1) j = a := ⟨_, rfl⟩
              obtain ⟨b, hb⟩ : ∃ b, byteAt (S (k + 1)) j = b := ⟨_, rfl⟩
              rw [ha] at hca hset
              rw [hb] at hcb hset
              clear ha hb
              have hj1 : (0 : Int) ≤ (j : Int) := by omega
              have hj2 : (j : Int) < (N : Int) := by omega
              go_wp2_with fail
              go_still_tail 10, (by kernel_rfl)
              go_wp2
              go_roundw
              case rel => exact ⟨j + 1, by omega, by go_num, hset.drew, (hrb.far (p := ⟨w.heap.size, j, none⟩) (by show wo.heap.size ≠ w.heap.size; omega) _).drew, (hbi.setCell (Nat.le_refl _) _).drew⟩
              case measure => simp [intOf]; omega
            · obtain rfl : j = N := by omega
              go_wp2
              go_roundw
              case rel => exact ⟨k + 1, by omega, by go_num, hra.congr fun i hi => midK_all hi, hbi⟩
              case measure => simp [intOf]; omega
        · have hk1 : k + 1 = L := by omega
          rw [hk1] at hrow
          have hcv := BRow.string (P := Tryd.prog) 54 5 Tryd.underlying54 Tryd.underlying5 hrow N Tryd.underlying9
          clear hk1
          go_wp2
          go_ret2
          exact ⟨by rw [HN.out]; rfl, hbw⟩
end Go.Proofs.YtgdebcpnihibjaaDoor
