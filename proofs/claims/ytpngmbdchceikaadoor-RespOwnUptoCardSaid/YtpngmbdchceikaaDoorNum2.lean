/- length: the program's. -/
import Derived.Test.YtpngmbdchceikaaDoorNum
namespace Go.Proofs.YtpngmbdchceikaaDoor
open Go.ChangeShapes Go.WideShapes Go.ChangeAt Go.RowKit
set_option linter.unusedVariables false

section
variable {lo hi : Int} {S : ByteArray} {p i : Nat} {n : Int}
theorem nv_bad (hl : Pl.lineS (S.data.toList.drop p) = .bad) : numV lo hi S p = .tuple #[.int .i64 0, .int .i64 0, .int .i64 30] := by unfold numV Pl.numS; rw [hl]
theorem nv_fn (hl : Pl.lineS (S.data.toList.drop p) = .full i) (hr : Pl.refP ((S.data.toList.drop p).take i) = none) : numV lo hi S p = .tuple #[.int .i64 0, .int .i64 0, .int .i64 30] := by unfold numV Pl.numS; rw [hl]; simp only; rw [hr]
theorem nv_fs (hl : Pl.lineS (S.data.toList.drop p) = .full i) (hr : Pl.refP ((S.data.toList.drop p).take i) = some n) (ho : ¬ (n < lo ∨ hi < n)) : numV lo hi S p = .tuple #[.int .i64 n, .int .i64 ((p : Int) + i + 2), .int .i64 0] := by
  unfold numV Pl.numS; rw [hl]; simp only; rw [hr]; simp only; rw [if_neg ho]; simp only [Int.natCast_add]; rw [Int.add_assoc]; rfl
theorem nv_fo (hl : Pl.lineS (S.data.toList.drop p) = .full i) (hr : Pl.refP ((S.data.toList.drop p).take i) = some n) (ho : n < lo ∨ hi < n) : numV lo hi S p = .tuple #[.int .i64 0, .int .i64 0, .int .i64 30] := by
  unfold numV Pl.numS; rw [hl]; simp only; rw [hr]; simp only; rw [if_pos ho]
theorem nv_hn (hl : Pl.lineS (S.data.toList.drop p) = .half i) (hr : Pl.refP ((S.data.toList.drop p).take i) = none) : numV lo hi S p = .tuple #[.int .i64 0, .int .i64 0, .int .i64 30] := by unfold numV Pl.numS; rw [hl]; simp only; rw [hr]
theorem nv_hs (hl : Pl.lineS (S.data.toList.drop p) = .half i) (hr : Pl.refP ((S.data.toList.drop p).take i) = some n) (ho : ¬ (n < lo ∨ hi < n)) : numV lo hi S p = .tuple #[.int .i64 0, .int .i64 0, .int .i64 31] := by
  unfold numV Pl.numS; rw [hl]; simp only; rw [hr]; simp only; rw [if_neg ho]
theorem nv_ho (hl : Pl.lineS (S.data.toList.drop p) = .half i) (hr : Pl.refP ((S.data.toList.drop p).take i) = some n) (ho : n < lo ∨ hi < n) : numV lo hi S p = .tuple #[.int .i64 0, .int .i64 0, .int .i64 30] := by
  unfold numV Pl.numS; rw [hl]; simp only; rw [hr]; simp only; rw [if_pos ho]
theorem nv_c0 (hl : Pl.lineS (S.data.toList.drop p) = .cut) (h0 : S.data.toList.drop p = [] ∨ S.data.toList.drop p = [45]) : numV lo hi S p = .tuple #[.int .i64 0, .int .i64 0, .int .i64 31] := by
  unfold numV Pl.numS; rw [hl]; simp only; rw [if_pos h0]
theorem nv_cn (hl : Pl.lineS (S.data.toList.drop p) = .cut) (h0 : ¬ (S.data.toList.drop p = [] ∨ S.data.toList.drop p = [45])) (hr : Pl.refP (S.data.toList.drop p) = none) : numV lo hi S p = .tuple #[.int .i64 0, .int .i64 0, .int .i64 30] := by
  unfold numV Pl.numS; rw [hl]; simp only; rw [if_neg h0, hr]
theorem nv_cs (hl : Pl.lineS (S.data.toList.drop p) = .cut) (h0 : ¬ (S.data.toList.drop p = [] ∨ S.data.toList.drop p = [45])) (hr : Pl.refP (S.data.toList.drop p) = some n) (ho : ¬ (n < lo ∨ hi < n)) : numV lo hi S p = .tuple #[.int .i64 0, .int .i64 0, .int .i64 31] := by
  unfold numV Pl.numS; rw [hl]; simp only; rw [if_neg h0, hr]; simp only; rw [if_neg ho]
theorem nv_co (hl : Pl.lineS (S.data.toList.drop p) = .cut) (h0 : ¬ (S.data.toList.drop p = [] ∨ S.data.toList.drop p = [45])) (hr : Pl.refP (S.data.toList.drop p) = some n) (ho : n < lo ∨ hi < n) : numV lo hi S p = .tuple #[.int .i64 0, .int .i64 0, .int .i64 30] := by
  unfold numV Pl.numS; rw [hl]; simp only; rw [if_neg h0, hr]; simp only; rw [if_pos ho]
end
/-- The last byte of a text behind p is no 13, where no line ends and the byte ahead of p is none. -/
theorem last_not {S : ByteArray} {p : Nat} (hp : p ≤ S.size) (h1 : 1 ≤ p) (hpre : ∀ c, S.data.toList[p - 1]? = some c → c ≠ 13) (hno : Pl.noEnd (S.data.toList.drop p) = true) :
    ∃ hk : S.size - 1 < S.size, (((S[S.size - 1]'hk).toNat : Int) == 13) = false := by
  obtain ⟨x, hx⟩ : ∃ x, S.data.toList[S.size - 1]? = some x := ⟨_, List.getElem?_eq_getElem (by simp; omega)⟩
  have hx13 : x ≠ 13 := by
    by_cases hpos : p < S.size
    · have hxm : x ∈ S.data.toList.drop p := by
        have : (S.data.toList.drop p)[S.size - 1 - p]? = some x := by rw [List.getElem?_drop, show p + (S.size - 1 - p) = S.size - 1 by omega]; exact hx
        exact List.mem_of_getElem? this
      intro e
      unfold Pl.noEnd at hno
      have := List.all_eq_true.1 hno x hxm
      rw [e] at this
      exact absurd this (by decide)
    · have : S.size = p := by omega
      exact hpre x (by rw [← this]; exact hx)
  obtain ⟨hk, hb⟩ := byte_at hx
  refine ⟨hk, ?_⟩
  rw [hb, beq_eq_false_iff_ne]
  intro e
  have : x.toNat = 13 := by omega
  exact hx13 (UInt8.toNat_inj.1 this)
set_option maxRecDepth 100000 in
set_option maxHeartbeats 3200000 in
theorem length_any (S : ByteArray) (hS : S.size ≤ 1073741824) (p : Nat) (hp : p ≤ S.size) (h1p : 1 ≤ p) (hpre : ∀ c, S.data.toList[p - 1]? = some c → c ≠ 13) (w : World) (hE : Env w) : Calls Tryd.prog 59 #[.string S, .int .i64 p] w fun e w' => e = .returned (numV (-1) 2147483647 S p) ∧ Below w.heap.size w w' := by
  have HE := Lib.hid hE
  have hi := fun W => line_any S hS p hp W
  have hn := fun W (h : Env W) => number_any S hS p hp W h
  have hlen : (S.data.toList.drop p).length = S.size - p := by rw [List.length_drop]; simp
  unfold lineV at hi
  clear hE
  cases hl : Pl.lineS (S.data.toList.drop p) with
  | bad =>
    rw [nv_bad hl] at hn
    have HN := Lib.hid hn
    have HV := Lib.hid (nv_bad (lo := -1) (hi := 2147483647) hl)
    clear hi hl hlen hn hpre
    go_enter Tryd.func59, Tryd.ntmps59
    go_wp2_with fail
    ((with_reducible refine (HN.out _ HE.out).mono ?_); rintro e w4 ⟨rfl, b4⟩)
    have E4 := Lib.hid (HE.out.kept b4)
    have B4 := Lib.hid b4
    clear b4
    go_wp2
    go_ret3
    exact ⟨by rw [HV.out]; rfl, B4.out⟩
  | full i =>
    rcases hr : Pl.refP ((S.data.toList.drop p).take i) with _ | n
    · rw [nv_fn hl hr] at hn
      have HN := Lib.hid hn
      have HV := Lib.hid (nv_fn (lo := -1) (hi := 2147483647) hl hr)
      clear hi hl hlen hn hpre hr
      go_enter Tryd.func59, Tryd.ntmps59
      go_wp2_with fail
      ((with_reducible refine (HN.out _ HE.out).mono ?_); rintro e w4 ⟨rfl, b4⟩)
      have E4 := Lib.hid (HE.out.kept b4)
      have B4 := Lib.hid b4
      clear b4
      go_wp2
      go_ret3
      exact ⟨by rw [HV.out]; rfl, B4.out⟩
    · rw [nv_fs hl hr (range64 hr)] at hn
      have HN := Lib.hid hn
      by_cases ho : n < -1 ∨ 2147483647 < n
      · have HV := Lib.hid (nv_fo (lo := -1) (hi := 2147483647) hl hr ho)
        clear hi hl hlen hn hpre hr
        rcases (show n < -1 ∨ (-1 ≤ n ∧ 2147483647 < n) by omega) with h | ⟨h, h'⟩
        · clear ho
          go_enter Tryd.func59, Tryd.ntmps59
          go_wp2_with fail
          ((with_reducible refine (HN.out _ HE.out).mono ?_); rintro e w4 ⟨rfl, b4⟩)
          have E4 := Lib.hid (HE.out.kept b4)
          have B4 := Lib.hid b4
          clear b4
          go_wp2
          go_ret3
          exact ⟨by rw [HV.out]; rfl, B4.out⟩
        · clear ho
          go_enter Tryd.func59, Tryd.ntmps59
          go_wp2_with fail
          ((with_reducible refine (HN.out _ HE.out).mono ?_); rintro e w4 ⟨rfl, b4⟩)
          have E4 := Lib.hid (HE.out.kept b4)
          have B4 := Lib.hid b4
          clear b4
          go_wp2
          go_ret3
          exact ⟨by rw [HV.out]; rfl, B4.out⟩
      · have HV := Lib.hid (nv_fs (lo := -1) (hi := 2147483647) hl hr ho)
        have h : -1 ≤ n := by omega
        have h' : n ≤ 2147483647 := by omega
        clear hi hl hlen hn hpre hr ho
        go_enter Tryd.func59, Tryd.ntmps59
        go_wp2_with fail
        ((with_reducible refine (HN.out _ HE.out).mono ?_); rintro e w4 ⟨rfl, b4⟩)
        have E4 := Lib.hid (HE.out.kept b4)
        have B4 := Lib.hid b4
        clear b4
        go_wp2
        go_ret3
        exact ⟨by rw [HV.out]; rfl, B4.out⟩
  | half i =>
    rw [hl] at hi
    simp only at hi
    have HI := Lib.hid hi
    obtain ⟨hsp, _, hil⟩ := Pl.lineS_half hl
    rw [hlen] at hil
    have hT : (S.extract p (p + i)).size ≤ 1073741824 := by rw [ByteArray.size_extract]; omega
    have h13 : (S.data.toList.drop p)[i]? = some 13 := by
      rw [hsp, List.getElem?_append_right (by rw [List.length_take]; omega), List.length_take, hlen, Nat.min_eq_left (by omega), Nat.sub_self]; rfl
    rw [List.getElem?_drop, show p + i = S.size - 1 by omega] at h13
    obtain ⟨hk, hb⟩ := byte_at h13
    have hb' : ((S[S.size - 1]'hk).toNat : Int) = 13 := hb
    have hgt : (1 : Int) ≤ S.size := by omega
    rcases hr : Pl.refP ((S.data.toList.drop p).take i) with _ | n
    · rw [nv_hn hl hr] at hn
      have HN := Lib.hid hn
      have HV := Lib.hid (nv_hn (lo := -1) (hi := 2147483647) hl hr)
      clear hi hl hlen hn hpre hr hsp h13 hb hil
      go_enter Tryd.func59, Tryd.ntmps59
      go_wp2_with fail
      ((with_reducible refine (HN.out _ HE.out).mono ?_); rintro e w4 ⟨rfl, b4⟩)
      have E4 := Lib.hid (HE.out.kept b4)
      have B4 := Lib.hid b4
      clear b4
      go_wp2
      go_ret3
      exact ⟨by rw [HV.out]; rfl, B4.out⟩
    · rw [nv_hs hl hr (range64 hr)] at hn
      have HN := Lib.hid hn
      have HP := Lib.hid (fun W h => parse_at hT (sub_take S p i) hr W h)
      simp only [optV] at HP
      by_cases ho : n < -1 ∨ 2147483647 < n
      · have HV := Lib.hid (nv_ho (lo := -1) (hi := 2147483647) hl hr ho)
        clear hi hl hlen hn hpre hr hsp h13 hb hil
        rcases (show n < -1 ∨ (-1 ≤ n ∧ 2147483647 < n) by omega) with h | ⟨h, h'⟩
        · clear ho
          go_enter Tryd.func59, Tryd.ntmps59
          go_wp2_with fail
          ((with_reducible refine (HN.out _ HE.out).mono ?_); rintro e w4 ⟨rfl, b4⟩)
          have E4 := Lib.hid (HE.out.kept b4)
          have B4 := Lib.hid b4
          clear b4
          go_wp2_with fail
          ((with_reducible refine (HI.out _).mono ?_); rintro e w5 ⟨rfl, b5⟩)
          have E5 := Lib.hid (E4.out.kept b5)
          have B5 := Lib.hid (B4.out.trans (b5.mono B4.out.size))
          clear b5
          go_wp2_with fail
          ((with_reducible refine (HP.out _ E5.out).mono ?_); rintro e w6 ⟨rfl, b6⟩)
          have B6 := Lib.hid (B5.out.trans (b6.mono B5.out.size))
          clear b6
          go_wp2
          go_ret3
          exact ⟨by rw [HV.out]; rfl, B6.out⟩
        · clear ho
          go_enter Tryd.func59, Tryd.ntmps59
          go_wp2_with fail
          ((with_reducible refine (HN.out _ HE.out).mono ?_); rintro e w4 ⟨rfl, b4⟩)
          have E4 := Lib.hid (HE.out.kept b4)
          have B4 := Lib.hid b4
          clear b4
          go_wp2_with fail
          ((with_reducible refine (HI.out _).mono ?_); rintro e w5 ⟨rfl, b5⟩)
          have E5 := Lib.hid (E4.out.kept b5)
          have B5 := Lib.hid (B4.out.trans (b5.mono B4.out.size))
          clear b5
          go_wp2_with fail
          ((with_reducible refine (HP.out _ E5.out).mono ?_); rintro e w6 ⟨rfl, b6⟩)
          have B6 := Lib.hid (B5.out.trans (b6.mono B5.out.size))
          clear b6
          go_wp2
          go_ret3
          exact ⟨by rw [HV.out]; rfl, B6.out⟩
      · have HV := Lib.hid (nv_hs (lo := -1) (hi := 2147483647) hl hr ho)
        have h : -1 ≤ n := by omega
        have h' : n ≤ 2147483647 := by omega
        clear hi hl hlen hn hpre hr ho hsp h13 hb hil
        go_enter Tryd.func59, Tryd.ntmps59
        go_wp2_with fail
        ((with_reducible refine (HN.out _ HE.out).mono ?_); rintro e w4 ⟨rfl, b4⟩)
        have E4 := Lib.hid (HE.out.kept b4)
        have B4 := Lib.hid b4
        clear b4
        go_wp2_with fail
        ((with_reducible refine (HI.out _).mono ?_); rintro e w5 ⟨rfl, b5⟩)
        have E5 := Lib.hid (E4.out.kept b5)
        have B5 := Lib.hid (B4.out.trans (b5.mono B4.out.size))
        clear b5
        go_wp2_with fail
        ((with_reducible refine (HP.out _ E5.out).mono ?_); rintro e w6 ⟨rfl, b6⟩)
        have B6 := Lib.hid (B5.out.trans (b6.mono B5.out.size))
        clear b6
        go_wp2
        go_ret3
        exact ⟨by rw [HV.out]; rfl, B6.out⟩
  | cut =>
    rw [hl] at hi
    simp only at hi
    have hno := Pl.lineS_cut hl
    obtain ⟨T, hTT⟩ : ∃ T, S.extract p S.size = T := ⟨_, rfl⟩
    have hT : T.size ≤ 1073741824 := by rw [← hTT, ByteArray.size_extract]; omega
    have hTd : T.data.toList = S.data.toList.drop p := by rw [← hTT]; exact sub_all S p
    rw [hTT] at hi
    have HI := Lib.hid hi
    clear hTT
    obtain ⟨hk, hb'⟩ := last_not hp h1p hpre hno
    have hgt : (1 : Int) ≤ S.size := by omega
    by_cases h0 : S.data.toList.drop p = [] ∨ S.data.toList.drop p = [45]
    · rw [nv_c0 hl h0] at hn
      have HN := Lib.hid hn
      have HV := Lib.hid (nv_c0 (lo := -1) (hi := 2147483647) hl h0)
      have hr : Pl.refP (S.data.toList.drop p) = none := by rcases h0 with h | h <;> rw [h] <;> decide
      have HP := Lib.hid (fun W h => parse_at hT hTd hr W h)
      simp only [optV] at HP
      clear hi hl hlen hno h0 hTd hn hpre hr
      go_enter Tryd.func59, Tryd.ntmps59
      go_wp2_with fail
      ((with_reducible refine (HN.out _ HE.out).mono ?_); rintro e w4 ⟨rfl, b4⟩)
      have E4 := Lib.hid (HE.out.kept b4)
      have B4 := Lib.hid b4
      clear b4
      go_wp2_with fail
      ((with_reducible refine (HI.out _).mono ?_); rintro e w5 ⟨rfl, b5⟩)
      have E5 := Lib.hid (E4.out.kept b5)
      have B5 := Lib.hid (B4.out.trans (b5.mono B4.out.size))
      clear b5
      go_wp2_with fail
      ((with_reducible refine (HP.out _ E5.out).mono ?_); rintro e w6 ⟨rfl, b6⟩)
      have B6 := Lib.hid (B5.out.trans (b6.mono B5.out.size))
      clear b6
      go_wp2
      go_ret3
      exact ⟨by rw [HV.out]; rfl, B6.out⟩
    rcases hr : Pl.refP (S.data.toList.drop p) with _ | n
    · rw [nv_cn hl h0 hr] at hn
      have HN := Lib.hid hn
      have HV := Lib.hid (nv_cn (lo := -1) (hi := 2147483647) hl h0 hr)
      clear hi hl hlen hno h0 hTd hn hpre hr
      go_enter Tryd.func59, Tryd.ntmps59
      go_wp2_with fail
      ((with_reducible refine (HN.out _ HE.out).mono ?_); rintro e w4 ⟨rfl, b4⟩)
      have E4 := Lib.hid (HE.out.kept b4)
      have B4 := Lib.hid b4
      clear b4
      go_wp2
      go_ret3
      exact ⟨by rw [HV.out]; rfl, B4.out⟩
    · rw [nv_cs hl h0 hr (range64 hr)] at hn
      have HN := Lib.hid hn
      have HP := Lib.hid (fun W h => parse_at hT hTd hr W h)
      simp only [optV] at HP
      by_cases ho : n < -1 ∨ 2147483647 < n
      · have HV := Lib.hid (nv_co (lo := -1) (hi := 2147483647) hl h0 hr ho)
        clear hi hl hlen hn hpre hr hno h0 hTd
        rcases (show n < -1 ∨ (-1 ≤ n ∧ 2147483647 < n) by omega) with h | ⟨h, h'⟩
        · clear ho
          go_enter Tryd.func59, Tryd.ntmps59
          go_wp2_with fail
          ((with_reducible refine (HN.out _ HE.out).mono ?_); rintro e w4 ⟨rfl, b4⟩)
          have E4 := Lib.hid (HE.out.kept b4)
          have B4 := Lib.hid b4
          clear b4
          go_wp2_with fail
          ((with_reducible refine (HI.out _).mono ?_); rintro e w5 ⟨rfl, b5⟩)
          have E5 := Lib.hid (E4.out.kept b5)
          have B5 := Lib.hid (B4.out.trans (b5.mono B4.out.size))
          clear b5
          go_wp2_with fail
          ((with_reducible refine (HP.out _ E5.out).mono ?_); rintro e w6 ⟨rfl, b6⟩)
          have B6 := Lib.hid (B5.out.trans (b6.mono B5.out.size))
          clear b6
          go_wp2
          go_ret3
          exact ⟨by rw [HV.out]; rfl, B6.out⟩
        · clear ho
          go_enter Tryd.func59, Tryd.ntmps59
          go_wp2_with fail
          ((with_reducible refine (HN.out _ HE.out).mono ?_); rintro e w4 ⟨rfl, b4⟩)
          have E4 := Lib.hid (HE.out.kept b4)
          have B4 := Lib.hid b4
          clear b4
          go_wp2_with fail
          ((with_reducible refine (HI.out _).mono ?_); rintro e w5 ⟨rfl, b5⟩)
          have E5 := Lib.hid (E4.out.kept b5)
          have B5 := Lib.hid (B4.out.trans (b5.mono B4.out.size))
          clear b5
          go_wp2_with fail
          ((with_reducible refine (HP.out _ E5.out).mono ?_); rintro e w6 ⟨rfl, b6⟩)
          have B6 := Lib.hid (B5.out.trans (b6.mono B5.out.size))
          clear b6
          go_wp2
          go_ret3
          exact ⟨by rw [HV.out]; rfl, B6.out⟩
      · have HV := Lib.hid (nv_cs (lo := -1) (hi := 2147483647) hl h0 hr ho)
        have h : -1 ≤ n := by omega
        have h' : n ≤ 2147483647 := by omega
        clear hi hl hlen hn hpre hr ho hno h0 hTd
        go_enter Tryd.func59, Tryd.ntmps59
        go_wp2_with fail
        ((with_reducible refine (HN.out _ HE.out).mono ?_); rintro e w4 ⟨rfl, b4⟩)
        have E4 := Lib.hid (HE.out.kept b4)
        have B4 := Lib.hid b4
        clear b4
        go_wp2_with fail
        ((with_reducible refine (HI.out _).mono ?_); rintro e w5 ⟨rfl, b5⟩)
        have E5 := Lib.hid (E4.out.kept b5)
        have B5 := Lib.hid (B4.out.trans (b5.mono B4.out.size))
        clear b5
        go_wp2_with fail
        ((with_reducible refine (HP.out _ E5.out).mono ?_); rintro e w6 ⟨rfl, b6⟩)
        have B6 := Lib.hid (B5.out.trans (b6.mono B5.out.size))
        clear b6
        go_wp2
        go_ret3
        exact ⟨by rw [HV.out]; rfl, B6.out⟩
end Go.Proofs.YtpngmbdchceikaaDoor
