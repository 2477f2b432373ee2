/- bulk: the reference's. -/
import Derived.Test.YtpngmbdchceikaaDoorRNum
import Derived.Test.YtpngmbdchceikaaDoorBulk
namespace Go.Proofs.YtpngmbdchceikaaDoor
open Go.ChangeShapes Go.WideShapes Go.ChangeAt Go.RowKit
open Pl (R Rd)
set_option linter.unusedVariables false

section
variable (lo hi : Int) (hlo : -9223372036854775808 ≤ lo) (hneg : lo < 0) (hhi : hi ≤ 9223372036854775807) (S : ByteArray) (hS : S.size ≤ 1073741824) (p : Nat) (hp : p + 1 ≤ S.size)
include hlo hneg hhi hS hp
theorem refNum_bad (h : Pl.numS lo hi (S.data.toList.drop (p + 1)) = .bad) (W : World) : Calls Tryd.prog 49 #[.string S, .int .i64 ((p : Int) + 1), .int .i64 lo, .int .i64 hi] W fun e w' => e = .returned (.tuple #[.int .i64 0, .int .i64 0, .int .i64 30]) ∧ Below W.heap.size W w' := by
  have := refNumber_any lo hi hlo hneg hhi S hS (p + 1) hp W
  rw [h] at this
  exact this
theorem refNum_more (h : Pl.numS lo hi (S.data.toList.drop (p + 1)) = .more) (W : World) : Calls Tryd.prog 49 #[.string S, .int .i64 ((p : Int) + 1), .int .i64 lo, .int .i64 hi] W fun e w' => (∃ a b : Int, e = .returned (.tuple #[.int .i64 a, .int .i64 b, .int .i64 31])) ∧ Below W.heap.size W w' := by
  have := refNumber_any lo hi hlo hneg hhi S hS (p + 1) hp W
  rw [h] at this
  exact this
theorem refNum_ok {n : Int} {i : Nat} (h : Pl.numS lo hi (S.data.toList.drop (p + 1)) = .ok n (i + 2)) (W : World) : Calls Tryd.prog 49 #[.string S, .int .i64 ((p : Int) + 1), .int .i64 lo, .int .i64 hi] W fun e w' => e = .returned (.tuple #[.int .i64 n, .int .i64 ((p : Int) + 1 + i), .int .i64 0]) ∧ Below W.heap.size W w' := by
  have := refNumber_any lo hi hlo hneg hhi S hS (p + 1) hp W
  rw [h] at this
  refine this.mono ?_
  rintro e w' ⟨⟨j, hj, rfl⟩, hb⟩
  obtain rfl : i = j := by omega
  exact ⟨by rw [show ((p + 1 : Nat) : Int) = (p : Int) + 1 by omega], hb⟩
end
set_option maxRecDepth 100000 in
set_option maxHeartbeats 3200000 in
theorem refBulk_any (S : ByteArray) (hS : S.size ≤ 1073741824) (p : Nat) (hp : p + 1 ≤ S.size) (w : World) : Calls Tryd.prog 50 #[.string S, .int .i64 p] w (RdEnd w (p + 1) (Pl.rdBulk (S.data.toList.drop (p + 1)))) := by
  have ha : Below w.heap.size w (w.alloc (.cells #[.int .i64 0, .string ⟨#[]⟩, .int .i64 0, .slice none 0 0] 24)) := (Below.refl _ _).alloc (Nat.le_refl _) _
  have A0 := Lib.hid ha
  have X0 := Lib.hid (Blk4.new (w := w) (a := .int .i64 0) (b := .string ⟨#[]⟩) (c := .int .i64 0) (d := .slice none 0 0) rfl)
  have hlen : (S.data.toList.drop (p + 1)).length = S.size - (p + 1) := by rw [List.length_drop]; simp
  clear ha
  cases hl : Pl.numS (-1) 2147483647 (S.data.toList.drop (p + 1)) with
  | bad =>
    have HN := Lib.hid (fun W => refNum_bad (-1) 2147483647 (by omega) (by omega) (by omega) S hS p hp hl W)
    have HX : Hid (Pl.rdBulk (S.data.toList.drop (p + 1)) = .bad) := (by show _ = _; unfold Pl.rdBulk; rw [hl])
    clear hl hlen
    go_enter Tryd.func50, Tryd.ntmps50
    go_wp2_with fail
    ((with_reducible refine (HN.out _).mono ?_); rintro e w4 ⟨rfl, b4⟩)
    have B4 := Lib.hid (A0.out.trans (b4.mono A0.out.size))
    have X4 := Lib.hid (X0.out.later b4)
    obtain ⟨x0, x1, x2, x3⟩ := X4.out.cells
    have x4 := fun i => X4.out.free i
    clear b4
    go_wp2
    exact bodyPost_ret (read_end rfl rfl ((((X4.out.set0 _).set1 _).set2 _).set3 _)) rfl (RdEnd.isBad HX.out (below4 B4.out (Nat.le_refl _) _ _ _ _))
  | more =>
    have HN := Lib.hid (fun W => refNum_more (-1) 2147483647 (by omega) (by omega) (by omega) S hS p hp hl W)
    have HX : Hid (Pl.rdBulk (S.data.toList.drop (p + 1)) = .more) := (by show _ = _; unfold Pl.rdBulk; rw [hl])
    clear hl hlen
    go_enter Tryd.func50, Tryd.ntmps50
    go_wp2_with fail
    ((with_reducible refine (HN.out _).mono ?_); rintro e w4 ⟨⟨aa, bb, rfl⟩, b4⟩)
    have B4 := Lib.hid (A0.out.trans (b4.mono A0.out.size))
    have X4 := Lib.hid (X0.out.later b4)
    obtain ⟨x0, x1, x2, x3⟩ := X4.out.cells
    have x4 := fun i => X4.out.free i
    clear b4
    go_wp2
    exact bodyPost_ret (read_end rfl rfl ((((X4.out.set0 _).set1 _).set2 _).set3 _)) rfl (RdEnd.isMore HX.out (below4 B4.out (Nat.le_refl _) _ _ _ _))
  | ok n k =>
    obtain ⟨_, -, hk2, n1, n2, -, -, hk⟩ := Pl.numS_ok hl
    rw [hlen] at hk
    obtain ⟨i, rfl⟩ : ∃ i, k = i + 2 := ⟨k - 2, by omega⟩
    clear hk2
    have HN := Lib.hid (fun W => refNum_ok (-1) 2147483647 (by omega) (by omega) (by omega) S hS p hp hl W)
    by_cases hneg : n < 0
    · have HX : Hid (Pl.rdBulk (S.data.toList.drop (p + 1)) = .ok (.mk 5 [] 0 []) (i + 2)) := (by show _ = _; unfold Pl.rdBulk; rw [hl]; simp only; rw [if_pos hneg])
      clear hl hlen
      go_enter Tryd.func50, Tryd.ntmps50
      go_wp2_with fail
      ((with_reducible refine (HN.out _).mono ?_); rintro e w4 ⟨rfl, b4⟩)
      have B4 := Lib.hid (A0.out.trans (b4.mono A0.out.size))
      have X4 := Lib.hid (X0.out.later b4)
      obtain ⟨x0, x1, x2, x3⟩ := X4.out.cells
      have x4 := fun i => X4.out.free i
      clear b4
      go_wp2
      exact bodyPost_ret (read_end rfl rfl ((((X4.out.set0 _).set1 _).set2 _).set3 _)) rfl (RdEnd.isOk HX.out (by simp only [Int.natCast_add]; omega) (RRow.nil _ _) (below4 B4.out (Nat.le_refl _) _ _ _ _))
    obtain ⟨m, rfl⟩ : ∃ m : Nat, n = m := ⟨n.toNat, by omega⟩
    have hml : ((S.data.toList.drop (p + 1)).drop (i + 2)).length = S.size - (p + 1 + i + 2) := by rw [List.length_drop, hlen]; omega
    have hdd : (S.data.toList.drop (p + 1)).drop (i + 2) = S.data.toList.drop (p + 1 + i + 2) := by rw [List.drop_drop]; rfl
    have hrb : Pl.rdBulk (S.data.toList.drop (p + 1)) = (if (m < S.size - (p + 1 + i + 2) ∧ (S.data.toList.drop (p + 1 + i + 2)).getD m 0 ≠ 13) ∨ (m + 1 < S.size - (p + 1 + i + 2) ∧ (S.data.toList.drop (p + 1 + i + 2)).getD (m + 1) 0 ≠ 10) then .bad else if S.size - (p + 1 + i + 2) < m + 2 then .more else .ok (.mk 4 ((S.data.toList.drop (p + 1 + i + 2)).take m) 0 []) (i + 2 + m + 2)) := by
      unfold Pl.rdBulk
      rw [hl]
      simp only
      rw [if_neg hneg, hml, hdd, Int.toNat_natCast]
    have hm0 : (0 : Int) ≤ (m : Int) := by omega
    have hsub : IntKind.i64.wrap ((S.size : Int) - ((p : Int) + 1 + i + 2)) = (S.size : Int) - ((p : Int) + 1 + i + 2) := by rw [IntWalk.i64_in]; omega
    by_cases hA : S.size - (p + 1 + i + 2) ≤ m
    · have HX : Hid (Pl.rdBulk (S.data.toList.drop (p + 1)) = .more) := (by show _ = _; rw [hrb, if_neg (by omega), if_pos (by omega)])
      have hA' : (S.size : Int) - ((p : Int) + 1 + i + 2) ≤ m := by omega
      clear hl hlen hml hdd hrb
      go_enter Tryd.func50, Tryd.ntmps50
      go_wp2_with fail
      ((with_reducible refine (HN.out _).mono ?_); rintro e w4 ⟨rfl, b4⟩)
      have B4 := Lib.hid (A0.out.trans (b4.mono A0.out.size))
      have X4 := Lib.hid (X0.out.later b4)
      obtain ⟨x0, x1, x2, x3⟩ := X4.out.cells
      have x4 := fun i => X4.out.free i
      clear b4
      go_wp2
      exact bodyPost_ret (read_end rfl rfl ((((X4.out.set0 _).set1 _).set2 _).set3 _)) rfl (RdEnd.isMore HX.out (below4 B4.out (Nat.le_refl _) _ _ _ _))
    have hq : p + 1 + i + 2 + m < S.size := by omega
    have hb1 := getD_byte (S := S) (q := p + 1 + i + 2) (i := m) hq
    have hA' : (m : Int) < (S.size : Int) - ((p : Int) + 1 + i + 2) := by omega
    by_cases h13 : (S.data.toList.drop (p + 1 + i + 2)).getD m 0 = 13
    · have hc1 : ((S[p + 1 + i + 2 + m]'hq).toNat : Int) = 13 := by rw [hb1, h13]; rfl
      by_cases hB : S.size - (p + 1 + i + 2) = m + 1
      · have HX : Hid (Pl.rdBulk (S.data.toList.drop (p + 1)) = .more) := (by show _ = _; rw [hrb, if_neg (fun h => h.elim (fun h => h.2 h13) (fun h => by omega)), if_pos (by omega)])
        have hB' : (S.size : Int) - ((p : Int) + 1 + i + 2) = m + 1 := by omega
        clear hl hlen hml hdd hrb hb1 h13
        go_enter Tryd.func50, Tryd.ntmps50
        go_wp2_with fail
        ((with_reducible refine (HN.out _).mono ?_); rintro e w4 ⟨rfl, b4⟩)
        have B4 := Lib.hid (A0.out.trans (b4.mono A0.out.size))
        have X4 := Lib.hid (X0.out.later b4)
        obtain ⟨x0, x1, x2, x3⟩ := X4.out.cells
        have x4 := fun i => X4.out.free i
        clear b4
        go_wp2
        exact bodyPost_ret (read_end rfl rfl ((((X4.out.set0 _).set1 _).set2 _).set3 _)) rfl (RdEnd.isMore HX.out (below4 B4.out (Nat.le_refl _) _ _ _ _))
      have hq2 : p + 1 + i + 2 + (m + 1) < S.size := by omega
      have hb2 := getD_byte (S := S) (q := p + 1 + i + 2) (i := m + 1) hq2
      have hB' : (m : Int) + 1 < (S.size : Int) - ((p : Int) + 1 + i + 2) := by omega
      by_cases h10 : (S.data.toList.drop (p + 1 + i + 2)).getD (m + 1) 0 = 10
      · have hC' : (m : Int) + 2 ≤ (S.size : Int) - ((p : Int) + 1 + i + 2) := by omega
        have hc2 : ((S[p + 1 + i + 2 + m + 1]'hq2).toNat : Int) = 10 := by
          have := hb2
          rw [h10] at this
          exact this
        have HX : Hid (Pl.rdBulk (S.data.toList.drop (p + 1)) = .ok (.mk 4 ((S.data.toList.drop (p + 1 + i + 2)).take m) 0 []) (i + 2 + m + 2)) := (by show _ = _; rw [hrb, if_neg (fun h => h.elim (fun h => h.2 h13) (fun h => h.2 h10)), if_neg (by omega)])
        have HT : Hid (str ((S.data.toList.drop (p + 1 + i + 2)).take m) = S.extract (p + 1 + i + 2) (p + 1 + i + 2 + m)) := (by show _ = _; rw [← sub_take, str_of])
        clear hl hlen hml hdd hrb hb1 h13 hb2 h10
        go_enter Tryd.func50, Tryd.ntmps50
        go_wp2_with fail
        ((with_reducible refine (HN.out _).mono ?_); rintro e w4 ⟨rfl, b4⟩)
        have B4 := Lib.hid (A0.out.trans (b4.mono A0.out.size))
        have X4 := Lib.hid (X0.out.later b4)
        obtain ⟨x0, x1, x2, x3⟩ := X4.out.cells
        have x4 := fun i => X4.out.free i
        clear b4
        go_wp2
        rw [← HT.out]
        exact bodyPost_ret (read_end rfl rfl ((((X4.out.set0 _).set1 _).set2 _).set3 _)) rfl (RdEnd.isOk HX.out (by simp only [Int.natCast_add]; omega) (RRow.nil _ _) (below4 B4.out (Nat.le_refl _) _ _ _ _))
      · have hc2 : (((S[p + 1 + i + 2 + m + 1]'hq2).toNat : Int) != 10) = true := by
          have := byte_ne10 h10
          rw [← hb2] at this
          exact this
        have HX : Hid (Pl.rdBulk (S.data.toList.drop (p + 1)) = .bad) := (by show _ = _; rw [hrb, if_pos (.inr ⟨by omega, h10⟩)])
        clear hl hlen hml hdd hrb hb1 h13 hb2 h10
        go_enter Tryd.func50, Tryd.ntmps50
        go_wp2_with fail
        ((with_reducible refine (HN.out _).mono ?_); rintro e w4 ⟨rfl, b4⟩)
        have B4 := Lib.hid (A0.out.trans (b4.mono A0.out.size))
        have X4 := Lib.hid (X0.out.later b4)
        obtain ⟨x0, x1, x2, x3⟩ := X4.out.cells
        have x4 := fun i => X4.out.free i
        clear b4
        go_wp2
        exact bodyPost_ret (read_end rfl rfl ((((X4.out.set0 _).set1 _).set2 _).set3 _)) rfl (RdEnd.isBad HX.out (below4 B4.out (Nat.le_refl _) _ _ _ _))
    · have hc1 : (((S[p + 1 + i + 2 + m]'hq).toNat : Int) != 13) = true := by
        rw [hb1, bne_iff_ne]
        intro e
        have : ((S.data.toList.drop (p + 1 + i + 2)).getD m 0).toNat = 13 := by omega
        exact h13 (UInt8.toNat_inj.1 this)
      have HX : Hid (Pl.rdBulk (S.data.toList.drop (p + 1)) = .bad) := (by show _ = _; rw [hrb, if_pos (.inl ⟨by omega, h13⟩)])
      clear hl hlen hml hdd hrb hb1 h13
      go_enter Tryd.func50, Tryd.ntmps50
      go_wp2_with fail
      ((with_reducible refine (HN.out _).mono ?_); rintro e w4 ⟨rfl, b4⟩)
      have B4 := Lib.hid (A0.out.trans (b4.mono A0.out.size))
      have X4 := Lib.hid (X0.out.later b4)
      obtain ⟨x0, x1, x2, x3⟩ := X4.out.cells
      have x4 := fun i => X4.out.free i
      clear b4
      go_wp2
      exact bodyPost_ret (read_end rfl rfl ((((X4.out.set0 _).set1 _).set2 _).set3 _)) rfl (RdEnd.isBad HX.out (below4 B4.out (Nat.le_refl _) _ _ _ _))
end Go.Proofs.YtpngmbdchceikaaDoor
