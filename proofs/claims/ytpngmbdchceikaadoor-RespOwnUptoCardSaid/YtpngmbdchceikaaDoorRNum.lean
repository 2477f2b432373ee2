/- number: the reference's. -/
import Derived.Test.YtpngmbdchceikaaDoorRLine
namespace Go.Proofs.YtpngmbdchceikaaDoor
open Go.ChangeShapes Go.WideShapes Go.ChangeAt Go.RowKit
set_option linter.unusedVariables false

section
variable {lo hi : Int} {l : List UInt8} {i : Nat} {n : Int}
theorem ns_bad (hl : Pl.lineS l = .bad) : Pl.numS lo hi l = .bad := by unfold Pl.numS; rw [hl]
theorem ns_fn (hl : Pl.lineS l = .full i) (hr : Pl.refP (l.take i) = none) : Pl.numS lo hi l = .bad := by unfold Pl.numS; rw [hl]; simp only; rw [hr]
theorem ns_fs (hl : Pl.lineS l = .full i) (hr : Pl.refP (l.take i) = some n) (ho : ¬ (n < lo ∨ hi < n)) : Pl.numS lo hi l = .ok n (i + 2) := by unfold Pl.numS; rw [hl]; simp only; rw [hr]; simp only; rw [if_neg ho]
theorem ns_fo (hl : Pl.lineS l = .full i) (hr : Pl.refP (l.take i) = some n) (ho : n < lo ∨ hi < n) : Pl.numS lo hi l = .bad := by unfold Pl.numS; rw [hl]; simp only; rw [hr]; simp only; rw [if_pos ho]
theorem ns_hn (hl : Pl.lineS l = .half i) (hr : Pl.refP (l.take i) = none) : Pl.numS lo hi l = .bad := by unfold Pl.numS; rw [hl]; simp only; rw [hr]
theorem ns_hs (hl : Pl.lineS l = .half i) (hr : Pl.refP (l.take i) = some n) (ho : ¬ (n < lo ∨ hi < n)) : Pl.numS lo hi l = .more := by unfold Pl.numS; rw [hl]; simp only; rw [hr]; simp only; rw [if_neg ho]
theorem ns_ho (hl : Pl.lineS l = .half i) (hr : Pl.refP (l.take i) = some n) (ho : n < lo ∨ hi < n) : Pl.numS lo hi l = .bad := by unfold Pl.numS; rw [hl]; simp only; rw [hr]; simp only; rw [if_pos ho]
theorem ns_c0 (hl : Pl.lineS l = .cut) (h0 : l = [] ∨ l = [45]) : Pl.numS lo hi l = .more := by unfold Pl.numS; rw [hl]; simp only; rw [if_pos h0]
theorem ns_cn (hl : Pl.lineS l = .cut) (h0 : ¬ (l = [] ∨ l = [45])) (hr : Pl.refP l = none) : Pl.numS lo hi l = .bad := by unfold Pl.numS; rw [hl]; simp only; rw [if_neg h0, hr]
theorem ns_cs (hl : Pl.lineS l = .cut) (h0 : ¬ (l = [] ∨ l = [45])) (hr : Pl.refP l = some n) (ho : ¬ (n < lo ∨ hi < n)) : Pl.numS lo hi l = .more := by unfold Pl.numS; rw [hl]; simp only; rw [if_neg h0, hr]; simp only; rw [if_neg ho]
theorem ns_co (hl : Pl.lineS l = .cut) (h0 : ¬ (l = [] ∨ l = [45])) (hr : Pl.refP l = some n) (ho : n < lo ∨ hi < n) : Pl.numS lo hi l = .bad := by unfold Pl.numS; rw [hl]; simp only; rw [if_neg h0, hr]; simp only; rw [if_pos ho]
end
/-- What the reference's number gives: where the line's end is. -/
def RNEnd (w : World) (p : Nat) (x : Pl.Nm) (e : Ending) (w' : World) : Prop :=
  (match x with
  | .bad => e = .returned (.tuple #[.int .i64 0, .int .i64 0, .int .i64 30])
  | .more => ∃ a b : Int, e = .returned (.tuple #[.int .i64 a, .int .i64 b, .int .i64 31])
  | .ok n k => ∃ i : Nat, k = i + 2 ∧ e = .returned (.tuple #[.int .i64 n, .int .i64 ((p : Int) + i), .int .i64 0])) ∧ Below w.heap.size w w'
theorem RNEnd.isBad {w w' : World} {p : Nat} {x : Pl.Nm} (hx : x = .bad) (hb : Below w.heap.size w w') : RNEnd w p x (.returned (.tuple #[.int .i64 0, .int .i64 0, .int .i64 30])) w' := by subst hx; exact ⟨rfl, hb⟩
theorem RNEnd.isMore {w w' : World} {p : Nat} {x : Pl.Nm} {a b : Int} (hx : x = .more) (hb : Below w.heap.size w w') : RNEnd w p x (.returned (.tuple #[.int .i64 a, .int .i64 b, .int .i64 31])) w' := by subst hx; exact ⟨⟨a, b, rfl⟩, hb⟩
theorem RNEnd.isOk {w w' : World} {p i : Nat} {x : Pl.Nm} {n : Int} (hx : x = .ok n (i + 2)) (hb : Below w.heap.size w w') : RNEnd w p x (.returned (.tuple #[.int .i64 n, .int .i64 ((p : Int) + i), .int .i64 0])) w' := by subst hx; exact ⟨⟨i, rfl, rfl⟩, hb⟩
theorem refParse_at {T : ByteArray} {l : List UInt8} (hT : T.size ≤ 1073741824) (hl : T.data.toList = l) {o : Option Int} (ho : Pl.refP l = o) (W : World) :
    Calls Tryd.prog 60 #[.string T] W fun e w' => e = .returned (optV o) ∧ Below W.heap.size W w' := by
  subst hl; subst ho
  exact refParse_any T (by omega) W
set_option maxRecDepth 100000 in
set_option maxHeartbeats 3200000 in
theorem refNumber_any (lo hi : Int) (hlo : -9223372036854775808 ≤ lo) (hneg : lo < 0) (hhi : hi ≤ 9223372036854775807) (S : ByteArray) (hS : S.size ≤ 1073741824) (p : Nat) (hp : p ≤ S.size) (w : World) : Calls Tryd.prog 49 #[.string S, .int .i64 p, .int .i64 lo, .int .i64 hi] w (RNEnd w p (Pl.numS lo hi (S.data.toList.drop p))) := by
  have hi0 := fun W => refLine_any S hS p hp W
  have hlen : (S.data.toList.drop p).length = S.size - p := by rw [List.length_drop]; simp
  cases hl : Pl.lineS (S.data.toList.drop p) with
  | bad =>
    rw [hl] at hi0
    simp only [lnV] at hi0
    have HI := Lib.hid hi0
    have HV := Lib.hid (ns_bad (lo := lo) (hi := hi) hl)
    clear hi0 hl hlen
    go_enter Tryd.func49, Tryd.ntmps49
    go_wp2_with fail
    ((with_reducible refine (HI.out _).mono ?_); rintro e w4 ⟨rfl, b4⟩)
    have B4 := Lib.hid b4
    clear b4
    go_wp2
    go_ret3
    exact RNEnd.isBad HV.out B4.out
  | full i =>
    rw [hl] at hi0
    simp only [lnV] at hi0
    have HI := Lib.hid hi0
    obtain ⟨_, -, -, hil⟩ := Pl.lineS_full hl
    rw [hlen] at hil
    have hT : (S.extract p (p + i)).size ≤ 1073741824 := by rw [ByteArray.size_extract]; omega
    rcases hr : Pl.refP ((S.data.toList.drop p).take i) with _ | n
    · have HP := Lib.hid (fun W => refParse_at hT (sub_take S p i) hr W)
      simp only [optV] at HP
      have HV := Lib.hid (ns_fn (lo := lo) (hi := hi) hl hr)
      clear hi0 hl hlen hr hT
      go_enter Tryd.func49, Tryd.ntmps49
      go_wp2_with fail
      ((with_reducible refine (HI.out _).mono ?_); rintro e w4 ⟨rfl, b4⟩)
      have B4 := Lib.hid b4
      clear b4
      go_wp2_with fail
      ((with_reducible refine (HP.out _).mono ?_); rintro e w5 ⟨rfl, b5⟩)
      have B5 := Lib.hid (B4.out.trans (b5.mono B4.out.size))
      clear b5
      go_wp2
      go_ret3
      exact RNEnd.isBad HV.out B5.out
    · have HP := Lib.hid (fun W => refParse_at hT (sub_take S p i) hr W)
      simp only [optV] at HP
      by_cases ho : n < lo ∨ hi < n
      · have HV := Lib.hid (ns_fo (lo := lo) (hi := hi) hl hr ho)
        clear hi0 hl hlen hr hT
        rcases (show n < lo ∨ (lo ≤ n ∧ hi < n) by omega) with h | ⟨h, h'⟩
        · clear ho
          go_enter Tryd.func49, Tryd.ntmps49
          go_wp2_with fail
          ((with_reducible refine (HI.out _).mono ?_); rintro e w4 ⟨rfl, b4⟩)
          have B4 := Lib.hid b4
          clear b4
          go_wp2_with fail
          ((with_reducible refine (HP.out _).mono ?_); rintro e w5 ⟨rfl, b5⟩)
          have B5 := Lib.hid (B4.out.trans (b5.mono B4.out.size))
          clear b5
          go_wp2
          go_ret3
          exact RNEnd.isBad HV.out B5.out
        · clear ho
          go_enter Tryd.func49, Tryd.ntmps49
          go_wp2_with fail
          ((with_reducible refine (HI.out _).mono ?_); rintro e w4 ⟨rfl, b4⟩)
          have B4 := Lib.hid b4
          clear b4
          go_wp2_with fail
          ((with_reducible refine (HP.out _).mono ?_); rintro e w5 ⟨rfl, b5⟩)
          have B5 := Lib.hid (B4.out.trans (b5.mono B4.out.size))
          clear b5
          go_wp2
          go_ret3
          exact RNEnd.isBad HV.out B5.out
      · have HV := Lib.hid (ns_fs (lo := lo) (hi := hi) hl hr ho)
        have h : lo ≤ n := by omega
        have h' : n ≤ hi := by omega
        clear hi0 hl hlen hr hT ho
        go_enter Tryd.func49, Tryd.ntmps49
        go_wp2_with fail
        ((with_reducible refine (HI.out _).mono ?_); rintro e w4 ⟨rfl, b4⟩)
        have B4 := Lib.hid b4
        clear b4
        go_wp2_with fail
        ((with_reducible refine (HP.out _).mono ?_); rintro e w5 ⟨rfl, b5⟩)
        have B5 := Lib.hid (B4.out.trans (b5.mono B4.out.size))
        clear b5
        go_wp2
        go_ret3
        exact RNEnd.isOk HV.out B5.out
  | half i =>
    rw [hl] at hi0
    simp only [lnV] at hi0
    have HI := Lib.hid hi0
    obtain ⟨-, -, hil⟩ := Pl.lineS_half hl
    rw [hlen] at hil
    have hT : (S.extract p (p + i)).size ≤ 1073741824 := by rw [ByteArray.size_extract]; omega
    have hne : ((p : Int) + i == S.size) = false := by rw [beq_eq_false_iff_ne]; omega
    rcases hr : Pl.refP ((S.data.toList.drop p).take i) with _ | n
    · have HP := Lib.hid (fun W => refParse_at hT (sub_take S p i) hr W)
      simp only [optV] at HP
      have HV := Lib.hid (ns_hn (lo := lo) (hi := hi) hl hr)
      clear hi0 hl hlen hr hT
      go_enter Tryd.func49, Tryd.ntmps49
      go_wp2_with fail
      ((with_reducible refine (HI.out _).mono ?_); rintro e w4 ⟨rfl, b4⟩)
      have B4 := Lib.hid b4
      clear b4
      go_wp2_with fail
      ((with_reducible refine (HP.out _).mono ?_); rintro e w5 ⟨rfl, b5⟩)
      have B5 := Lib.hid (B4.out.trans (b5.mono B4.out.size))
      clear b5
      go_wp2
      go_ret3
      exact RNEnd.isBad HV.out B5.out
    · have HP := Lib.hid (fun W => refParse_at hT (sub_take S p i) hr W)
      simp only [optV] at HP
      by_cases ho : n < lo ∨ hi < n
      · have HV := Lib.hid (ns_ho (lo := lo) (hi := hi) hl hr ho)
        clear hi0 hl hlen hr hT
        rcases (show n < lo ∨ (lo ≤ n ∧ hi < n) by omega) with h | ⟨h, h'⟩
        · clear ho
          go_enter Tryd.func49, Tryd.ntmps49
          go_wp2_with fail
          ((with_reducible refine (HI.out _).mono ?_); rintro e w4 ⟨rfl, b4⟩)
          have B4 := Lib.hid b4
          clear b4
          go_wp2_with fail
          ((with_reducible refine (HP.out _).mono ?_); rintro e w5 ⟨rfl, b5⟩)
          have B5 := Lib.hid (B4.out.trans (b5.mono B4.out.size))
          clear b5
          go_wp2
          go_ret3
          exact RNEnd.isBad HV.out B5.out
        · clear ho
          go_enter Tryd.func49, Tryd.ntmps49
          go_wp2_with fail
          ((with_reducible refine (HI.out _).mono ?_); rintro e w4 ⟨rfl, b4⟩)
          have B4 := Lib.hid b4
          clear b4
          go_wp2_with fail
          ((with_reducible refine (HP.out _).mono ?_); rintro e w5 ⟨rfl, b5⟩)
          have B5 := Lib.hid (B4.out.trans (b5.mono B4.out.size))
          clear b5
          go_wp2
          go_ret3
          exact RNEnd.isBad HV.out B5.out
      · have HV := Lib.hid (ns_hs (lo := lo) (hi := hi) hl hr ho)
        have h : lo ≤ n := by omega
        have h' : n ≤ hi := by omega
        clear hi0 hl hlen hr hT ho
        go_enter Tryd.func49, Tryd.ntmps49
        go_wp2_with fail
        ((with_reducible refine (HI.out _).mono ?_); rintro e w4 ⟨rfl, b4⟩)
        have B4 := Lib.hid b4
        clear b4
        go_wp2_with fail
        ((with_reducible refine (HP.out _).mono ?_); rintro e w5 ⟨rfl, b5⟩)
        have B5 := Lib.hid (B4.out.trans (b5.mono B4.out.size))
        clear b5
        go_wp2
        go_ret3
        exact RNEnd.isMore HV.out B5.out
  | cut =>
    rw [hl] at hi0
    simp only [lnV] at hi0
    have HI := Lib.hid hi0
    obtain ⟨T, hTT⟩ : ∃ T, S.extract p S.size = T := ⟨_, rfl⟩
    have hT : T.size ≤ 1073741824 := by rw [← hTT, ByteArray.size_extract]; omega
    have hTd : T.data.toList = S.data.toList.drop p := by rw [← hTT]; exact sub_all S p
    by_cases h0 : S.data.toList.drop p = [] ∨ S.data.toList.drop p = [45]
    · have HV := Lib.hid (ns_c0 (lo := lo) (hi := hi) hl h0)
      rcases h0 with h0 | h0
      · have hT0 : T = ⟨#[]⟩ := by rw [← str_of T, hTd, h0]; rfl
        subst hT0
        clear hi0 hl hlen hTd hT h0
        go_enter Tryd.func49, Tryd.ntmps49
        go_wp2_with fail
        ((with_reducible refine (HI.out _).mono ?_); rintro e w4 ⟨rfl, b4⟩)
        have B4 := Lib.hid b4
        clear b4
        go_wp2
        go_ret3
        exact RNEnd.isMore HV.out B4.out
      · have hT0 : T = ⟨#[45]⟩ := by rw [← str_of T, hTd, h0]; rfl
        subst hT0
        clear hi0 hl hlen hTd hT h0
        go_enter Tryd.func49, Tryd.ntmps49
        go_wp2_with fail
        ((with_reducible refine (HI.out _).mono ?_); rintro e w4 ⟨rfl, b4⟩)
        have B4 := Lib.hid b4
        clear b4
        go_wp2
        go_ret3
        exact RNEnd.isMore HV.out B4.out
    have b0 : T.toList.isEmpty = false := by
      rw [ByteArray.toList_eq, List.isEmpty_eq_false_iff]; intro e; exact h0 (.inl (by rw [← hTd, e]))
    have b1 : (T.toList == [45]) = false := by
      rw [ByteArray.toList_eq, beq_eq_false_iff_ne]; intro e; exact h0 (.inr (by rw [← hTd, e]))
    rcases hr : Pl.refP (S.data.toList.drop p) with _ | n
    · have HP := Lib.hid (fun W => refParse_at hT hTd hr W)
      simp only [optV] at HP
      have HV := Lib.hid (ns_cn (lo := lo) (hi := hi) hl h0 hr)
      clear hi0 hl hlen hr hT hTd h0
      go_enter Tryd.func49, Tryd.ntmps49
      go_wp2_with fail
      ((with_reducible refine (HI.out _).mono ?_); rintro e w4 ⟨rfl, b4⟩)
      have B4 := Lib.hid b4
      clear b4
      go_wp2_with fail
      ((with_reducible refine (HP.out _).mono ?_); rintro e w5 ⟨rfl, b5⟩)
      have B5 := Lib.hid (B4.out.trans (b5.mono B4.out.size))
      clear b5
      go_wp2
      go_ret3
      exact RNEnd.isBad HV.out B5.out
    · have HP := Lib.hid (fun W => refParse_at hT hTd hr W)
      simp only [optV] at HP
      by_cases ho : n < lo ∨ hi < n
      · have HV := Lib.hid (ns_co (lo := lo) (hi := hi) hl h0 hr ho)
        clear hi0 hl hlen hr hT hTd h0
        rcases (show n < lo ∨ (lo ≤ n ∧ hi < n) by omega) with h | ⟨h, h'⟩
        · clear ho
          go_enter Tryd.func49, Tryd.ntmps49
          go_wp2_with fail
          ((with_reducible refine (HI.out _).mono ?_); rintro e w4 ⟨rfl, b4⟩)
          have B4 := Lib.hid b4
          clear b4
          go_wp2_with fail
          ((with_reducible refine (HP.out _).mono ?_); rintro e w5 ⟨rfl, b5⟩)
          have B5 := Lib.hid (B4.out.trans (b5.mono B4.out.size))
          clear b5
          go_wp2
          go_ret3
          exact RNEnd.isBad HV.out B5.out
        · clear ho
          go_enter Tryd.func49, Tryd.ntmps49
          go_wp2_with fail
          ((with_reducible refine (HI.out _).mono ?_); rintro e w4 ⟨rfl, b4⟩)
          have B4 := Lib.hid b4
          clear b4
          go_wp2_with fail
          ((with_reducible refine (HP.out _).mono ?_); rintro e w5 ⟨rfl, b5⟩)
          have B5 := Lib.hid (B4.out.trans (b5.mono B4.out.size))
          clear b5
          go_wp2
          go_ret3
          exact RNEnd.isBad HV.out B5.out
      · have HV := Lib.hid (ns_cs (lo := lo) (hi := hi) hl h0 hr ho)
        have h : lo ≤ n := by omega
        have h' : n ≤ hi := by omega
        clear hi0 hl hlen hr hT hTd h0 ho
        go_enter Tryd.func49, Tryd.ntmps49
        go_wp2_with fail
        ((with_reducible refine (HI.out _).mono ?_); rintro e w4 ⟨rfl, b4⟩)
        have B4 := Lib.hid b4
        clear b4
        go_wp2_with fail
        ((with_reducible refine (HP.out _).mono ?_); rintro e w5 ⟨rfl, b5⟩)
        have B5 := Lib.hid (B4.out.trans (b5.mono B4.out.size))
        clear b5
        go_wp2
        go_ret3
        exact RNEnd.isMore HV.out B5.out
end Go.Proofs.YtpngmbdchceikaaDoor
