/- starts, number, length: the program's. -/
import Derived.Test.YtpngmbdchceikaaDoorLine
import Derived.Test.YtpngmbdchceikaaDoorNumParsesW
import Derived.Test.YtpngmbdchceikaaDoorPlainResp2
namespace Go.Proofs.YtpngmbdchceikaaDoor
open Go.ChangeShapes Go.WideShapes Go.ChangeAt Go.RowKit
set_option linter.unusedVariables false

/-- The table and the sentinels. -/
def Env (w : World) : Prop := Pows w ∧ Sents w
theorem Env.kept {W W' : World} (h : Env W) (hb : Below W.heap.size W W') : Env W' := ⟨h.1.kept (B := 0) hb, h.2.kept hb⟩
/-- May a number begin so? -/
def starts (t : List UInt8) : Bool := t.isEmpty || t == [45] || (Pl.refP t).isSome
set_option maxRecDepth 100000 in
set_option maxHeartbeats 1600000 in
theorem starts_any (T : ByteArray) (hT : T.size ≤ 1073741824) (w : World) (hE : Env w) : Calls Tryd.prog 58 #[.string T] w fun e w' => e = .returned (.bool (starts T.data.toList)) ∧ Below w.heap.size w w' := by
  have HE := Lib.hid hE
  clear hE
  by_cases h0 : T = ⟨#[]⟩
  · subst h0
    go_enter Tryd.func58, Tryd.ntmps58
    go_wp2
    go_ret
    exact ⟨rfl, Below.refl _ _⟩
  by_cases h1 : T = ⟨#[45]⟩
  · subst h1
    go_enter Tryd.func58, Tryd.ntmps58
    go_wp2
    go_ret
    exact ⟨rfl, Below.refl _ _⟩
  have hst : starts T.data.toList = (Pl.refP T.data.toList).isSome := by
    unfold starts
    have a0 : T.data.toList.isEmpty = false := by
      rw [List.isEmpty_eq_false_iff]; intro e; exact h0 (by rw [← str_of T, e]; rfl)
    have a1 : (T.data.toList == [45]) = false := by
      rw [beq_eq_false_iff_ne]; intro e; exact h1 (by rw [← str_of T, e]; rfl)
    rw [a0, a1]; rfl
  have HS := Lib.hid hst
  have b0 : T.toList.isEmpty = false := by
    rw [ByteArray.toList_eq, List.isEmpty_eq_false_iff]; intro e; exact h0 (by rw [← str_of T, e]; rfl)
  have b1 : (T.toList == [45]) = false := by
    rw [ByteArray.toList_eq, beq_eq_false_iff_ne]; intro e; exact h1 (by rw [← str_of T, e]; rfl)
  have hp := fun W (h : Env W) => numParse_any T (by omega) W h.1 h.2
  rcases hr : Pl.refP T.data.toList with _ | m
  · rw [hr] at hp
    simp only [optV] at hp
    have HPP := Lib.hid hp
    have HR := Lib.hid hr
    clear hp hr hst
    go_enter Tryd.func58, Tryd.ntmps58
    go_wp2_with fail
    ((with_reducible refine (HPP.out _ HE.out).mono ?_); rintro e w4 ⟨rfl, b4⟩)
    go_wp2
    go_ret
    exact ⟨by rw [HS.out, HR.out]; rfl, b4⟩
  · rw [hr] at hp
    simp only [optV] at hp
    have HPP := Lib.hid hp
    have HR := Lib.hid hr
    clear hp hr hst
    go_enter Tryd.func58, Tryd.ntmps58
    go_wp2_with fail
    ((with_reducible refine (HPP.out _ HE.out).mono ?_); rintro e w4 ⟨rfl, b4⟩)
    go_wp2
    go_ret
    exact ⟨by rw [HS.out, HR.out]; rfl, b4⟩
/-- What number and length tell. -/
def numV (lo hi : Int) (S : ByteArray) (p : Nat) : Value :=
  match Pl.numS lo hi (S.data.toList.drop p) with
  | .bad => .tuple #[.int .i64 0, .int .i64 0, .int .i64 30]
  | .more => .tuple #[.int .i64 0, .int .i64 0, .int .i64 31]
  | .ok n k => .tuple #[.int .i64 n, .int .i64 ((p : Int) + k), .int .i64 0]
theorem sub_take (S : ByteArray) (p i : Nat) : (S.extract p (p + i)).data.toList = (S.data.toList.drop p).take i := by rw [Lib.extract_data, show p + i - p = i by omega]
theorem sub_all (S : ByteArray) (p : Nat) : (S.extract p S.size).data.toList = S.data.toList.drop p := by rw [Lib.extract_data, List.take_of_length_le]; simp
theorem parse_at {T : ByteArray} {l : List UInt8} (hT : T.size ≤ 1073741824) (hl : T.data.toList = l) {o : Option Int} (ho : Pl.refP l = o) (W : World) (h : Env W) :
    Calls Tryd.prog 57 #[.string T] W fun e w' => e = .returned (optV o) ∧ Below W.heap.size W w' := by
  subst hl; subst ho
  exact numParse_any T (by omega) W h.1 h.2
theorem range64 {n : Int} {t : List UInt8} (h : Pl.refP t = some n) : ¬ (n < -9223372036854775808 ∨ 9223372036854775807 < n) := by
  have := Pl.refP_itoa h
  omega
set_option maxRecDepth 100000 in
set_option maxHeartbeats 3200000 in
theorem number_any (S : ByteArray) (hS : S.size ≤ 1073741824) (p : Nat) (hp : p ≤ S.size) (w : World) (hE : Env w) : Calls Tryd.prog 45 #[.string S, .int .i64 p] w fun e w' => e = .returned (numV (-9223372036854775808) 9223372036854775807 S p) ∧ Below w.heap.size w w' := by
  have HE := Lib.hid hE
  have hi := fun W => line_any S hS p hp W
  have hlen : (S.data.toList.drop p).length = S.size - p := by rw [List.length_drop]; simp
  unfold lineV at hi
  clear hE
  cases hl : Pl.lineS (S.data.toList.drop p) with
  | bad =>
    rw [hl] at hi
    have HI := Lib.hid hi
    have HV : Hid (numV (-9223372036854775808) 9223372036854775807 S p = .tuple #[.int .i64 0, .int .i64 0, .int .i64 30]) := (by show _ = _; unfold numV Pl.numS; rw [hl])
    clear hi hl hlen
    go_enter Tryd.func45, Tryd.ntmps45
    go_wp2_with fail
    ((with_reducible refine (HI.out _).mono ?_); rintro e w4 ⟨rfl, b4⟩)
    have E4 := Lib.hid (HE.out.kept b4)
    have B4 := Lib.hid b4
    clear b4
    go_wp2
    go_ret3
    exact ⟨by rw [HV.out]; rfl, B4.out⟩
  | full i =>
    rw [hl] at hi
    simp only at hi
    have HI := Lib.hid hi
    obtain ⟨_, _, _, hil⟩ := Pl.lineS_full hl
    rw [hlen] at hil
    have hT : (S.extract p (p + i)).size ≤ 1073741824 := by rw [ByteArray.size_extract]; omega
    rcases hr : Pl.refP ((S.data.toList.drop p).take i) with _ | n
    · have HP := Lib.hid (fun W h => parse_at hT (sub_take S p i) hr W h)
      simp only [optV] at HP
      have HV : Hid (numV (-9223372036854775808) 9223372036854775807 S p = .tuple #[.int .i64 0, .int .i64 0, .int .i64 30]) := (by show _ = _; unfold numV Pl.numS; rw [hl]; simp only; rw [hr])
      clear hi hl hlen hr
      go_enter Tryd.func45, Tryd.ntmps45
      go_wp2_with fail
      ((with_reducible refine (HI.out _).mono ?_); rintro e w4 ⟨rfl, b4⟩)
      have E4 := Lib.hid (HE.out.kept b4)
      have B4 := Lib.hid b4
      clear b4
      go_wp2_with fail
      ((with_reducible refine (HP.out _ E4.out).mono ?_); rintro e w5 ⟨rfl, b5⟩)
      have E5 := Lib.hid (E4.out.kept b5)
      have B5 := Lib.hid (B4.out.trans (b5.mono B4.out.size))
      clear b5
      go_wp2
      go_ret3
      exact ⟨by rw [HV.out]; rfl, B5.out⟩
    · have HP := Lib.hid (fun W h => parse_at hT (sub_take S p i) hr W h)
      simp only [optV] at HP
      have HV : Hid (numV (-9223372036854775808) 9223372036854775807 S p = .tuple #[.int .i64 n, .int .i64 ((p : Int) + i + 2), .int .i64 0]) := (by show _ = _; unfold numV Pl.numS; rw [hl]; simp only; rw [hr]; simp only; rw [if_neg (range64 hr)]; simp only [Int.natCast_add]; rw [Int.add_assoc]; rfl)
      clear hi hl hlen hr
      go_enter Tryd.func45, Tryd.ntmps45
      go_wp2_with fail
      ((with_reducible refine (HI.out _).mono ?_); rintro e w4 ⟨rfl, b4⟩)
      have E4 := Lib.hid (HE.out.kept b4)
      have B4 := Lib.hid b4
      clear b4
      go_wp2_with fail
      ((with_reducible refine (HP.out _ E4.out).mono ?_); rintro e w5 ⟨rfl, b5⟩)
      have E5 := Lib.hid (E4.out.kept b5)
      have B5 := Lib.hid (B4.out.trans (b5.mono B4.out.size))
      clear b5
      go_wp2
      go_ret3
      exact ⟨by rw [HV.out]; rfl, B5.out⟩
  | half i =>
    rw [hl] at hi
    simp only at hi
    have HI := Lib.hid hi
    obtain ⟨hsp, _, hil⟩ := Pl.lineS_half hl
    rw [hlen] at hil
    have hT : (S.extract p (p + i)).size ≤ 1073741824 := by rw [ByteArray.size_extract]; omega
    have h13 : (S.data.toList.drop p)[i]? = some 13 := by
      rw [hsp, List.getElem?_append_right (by rw [List.length_take]; omega), List.length_take, hlen, Nat.min_eq_left (by omega), Nat.sub_self]; rfl
    rw [List.getElem?_drop, show p + i = S.size - 1 by omega] at h13
    obtain ⟨hk, hb⟩ := byte_at h13
    have hb' : ((S[S.size - 1]'hk).toNat : Int) = 13 := hb
    have hgt : (p : Int) < S.size := by omega
    rcases hr : Pl.refP ((S.data.toList.drop p).take i) with _ | n
    · have HP := Lib.hid (fun W h => parse_at hT (sub_take S p i) hr W h)
      simp only [optV] at HP
      have HV : Hid (numV (-9223372036854775808) 9223372036854775807 S p = .tuple #[.int .i64 0, .int .i64 0, .int .i64 30]) := (by show _ = _; unfold numV Pl.numS; rw [hl]; simp only; rw [hr])
      clear hi hl hlen hr hsp h13 hb hil
      go_enter Tryd.func45, Tryd.ntmps45
      go_wp2_with fail
      ((with_reducible refine (HI.out _).mono ?_); rintro e w4 ⟨rfl, b4⟩)
      have E4 := Lib.hid (HE.out.kept b4)
      have B4 := Lib.hid b4
      clear b4
      go_wp2_with fail
      ((with_reducible refine (HP.out _ E4.out).mono ?_); rintro e w5 ⟨rfl, b5⟩)
      have E5 := Lib.hid (E4.out.kept b5)
      have B5 := Lib.hid (B4.out.trans (b5.mono B4.out.size))
      clear b5
      go_wp2
      go_ret3
      exact ⟨by rw [HV.out]; rfl, B5.out⟩
    · have HP := Lib.hid (fun W h => parse_at hT (sub_take S p i) hr W h)
      simp only [optV] at HP
      have HV : Hid (numV (-9223372036854775808) 9223372036854775807 S p = .tuple #[.int .i64 0, .int .i64 0, .int .i64 31]) := (by show _ = _; unfold numV Pl.numS; rw [hl]; simp only; rw [hr]; simp only; rw [if_neg (range64 hr)])
      clear hi hl hlen hr hsp h13 hb hil
      go_enter Tryd.func45, Tryd.ntmps45
      go_wp2_with fail
      ((with_reducible refine (HI.out _).mono ?_); rintro e w4 ⟨rfl, b4⟩)
      have E4 := Lib.hid (HE.out.kept b4)
      have B4 := Lib.hid b4
      clear b4
      go_wp2_with fail
      ((with_reducible refine (HP.out _ E4.out).mono ?_); rintro e w5 ⟨rfl, b5⟩)
      have E5 := Lib.hid (E4.out.kept b5)
      have B5 := Lib.hid (B4.out.trans (b5.mono B4.out.size))
      clear b5
      go_wp2
      go_ret3
      exact ⟨by rw [HV.out]; rfl, B5.out⟩
  | cut =>
    rw [hl] at hi
    simp only at hi
    have hno := Pl.lineS_cut hl
    obtain ⟨T, hTT⟩ : ∃ T, S.extract p S.size = T := ⟨_, rfl⟩
    have hT : T.size ≤ 1073741824 := by rw [← hTT, ByteArray.size_extract]; omega
    have hTd : T.data.toList = S.data.toList.drop p := by rw [← hTT]; exact sub_all S p
    rw [hTT] at hi
    have HI := Lib.hid hi
    have hst := fun W h => starts_any T hT W h
    rw [hTd] at hst
    clear hTT
    by_cases h0 : S.data.toList.drop p = []
    · have HV : Hid (numV (-9223372036854775808) 9223372036854775807 S p = .tuple #[.int .i64 0, .int .i64 0, .int .i64 31]) := (by show _ = _; unfold numV Pl.numS; rw [hl]; simp only; rw [if_pos (.inl h0)])
      have HP := Lib.hid (fun W h => parse_at hT (hTd.trans h0) (show Pl.refP [] = none by decide) W h)
      simp only [optV] at HP
      rw [h0, show starts [] = true by decide] at hst
      have HS := Lib.hid hst
      have hge : S.size = p := by rw [h0] at hlen; simp at hlen; omega
      have hge' : ((p : Int) < S.size) = False := by rw [eq_iff_iff, iff_false]; omega
      clear hi hl hlen hno hst h0 hTd hge
      go_enter Tryd.func45, Tryd.ntmps45
      go_wp2_with fail
      ((with_reducible refine (HI.out _).mono ?_); rintro e w4 ⟨rfl, b4⟩)
      have E4 := Lib.hid (HE.out.kept b4)
      have B4 := Lib.hid b4
      clear b4
      go_wp2_with fail
      ((with_reducible refine (HP.out _ E4.out).mono ?_); rintro e w5 ⟨rfl, b5⟩)
      have E5 := Lib.hid (E4.out.kept b5)
      have B5 := Lib.hid (B4.out.trans (b5.mono B4.out.size))
      clear b5
      go_wp2_with fail
      ((with_reducible refine (HS.out _ E5.out).mono ?_); rintro e w6 ⟨rfl, b6⟩)
      go_wp2
      go_ret3
      exact ⟨by rw [HV.out]; rfl, B5.out.trans (b6.mono B5.out.size)⟩
    have hpos : p < S.size := by
      rcases Nat.lt_or_ge p S.size with h | h
      · exact h
      · exact absurd (List.drop_eq_nil_iff.2 (by simp; omega)) h0
    obtain ⟨x, hx⟩ : ∃ x, S.data.toList[S.size - 1]? = some x := ⟨_, List.getElem?_eq_getElem (by simp; omega)⟩
    have hxm : x ∈ S.data.toList.drop p := by
      have : (S.data.toList.drop p)[S.size - 1 - p]? = some x := by rw [List.getElem?_drop, show p + (S.size - 1 - p) = S.size - 1 by omega]; exact hx
      exact List.mem_of_getElem? this
    have hx13 : x ≠ 13 := by
      intro e
      unfold Pl.noEnd at hno
      have := List.all_eq_true.1 hno x hxm
      rw [e] at this
      exact absurd this (by decide)
    obtain ⟨hk, hb⟩ := byte_at hx
    have hb' : (((S[S.size - 1]'hk).toNat : Int) == 13) = false := by
      rw [hb, beq_eq_false_iff_ne]
      intro e
      have : x.toNat = 13 := by omega
      exact hx13 (UInt8.toNat_inj.1 this)
    have hgt : (p : Int) < S.size := by omega
    by_cases h1 : S.data.toList.drop p = [45]
    · have HV : Hid (numV (-9223372036854775808) 9223372036854775807 S p = .tuple #[.int .i64 0, .int .i64 0, .int .i64 31]) := (by show _ = _; unfold numV Pl.numS; rw [hl]; simp only; rw [if_pos (.inr h1)])
      have HP := Lib.hid (fun W h => parse_at hT (hTd.trans h1) (show Pl.refP [45] = none by decide) W h)
      simp only [optV] at HP
      rw [h1, show starts [45] = true by decide] at hst
      have HS := Lib.hid hst
      clear hi hl hlen hno hst h0 hTd h1 hx hxm hx13 hb
      go_enter Tryd.func45, Tryd.ntmps45
      go_wp2_with fail
      ((with_reducible refine (HI.out _).mono ?_); rintro e w4 ⟨rfl, b4⟩)
      have E4 := Lib.hid (HE.out.kept b4)
      have B4 := Lib.hid b4
      clear b4
      go_wp2_with fail
      ((with_reducible refine (HP.out _ E4.out).mono ?_); rintro e w5 ⟨rfl, b5⟩)
      have E5 := Lib.hid (E4.out.kept b5)
      have B5 := Lib.hid (B4.out.trans (b5.mono B4.out.size))
      clear b5
      go_wp2_with fail
      ((with_reducible refine (HS.out _ E5.out).mono ?_); rintro e w6 ⟨rfl, b6⟩)
      go_wp2
      go_ret3
      exact ⟨by rw [HV.out]; rfl, B5.out.trans (b6.mono B5.out.size)⟩
    have hs0 : starts (S.data.toList.drop p) = (Pl.refP (S.data.toList.drop p)).isSome := by
      unfold starts
      rw [List.isEmpty_eq_false_iff.2 h0, beq_eq_false_iff_ne.2 h1]; rfl
    rw [hs0] at hst
    rcases hr : Pl.refP (S.data.toList.drop p) with _ | n
    · have HP := Lib.hid (fun W h => parse_at hT hTd hr W h)
      simp only [optV] at HP
      rw [hr] at hst
      simp only [Option.isSome] at hst
      have HS := Lib.hid hst
      have HV : Hid (numV (-9223372036854775808) 9223372036854775807 S p = .tuple #[.int .i64 0, .int .i64 0, .int .i64 30]) := (by show _ = _; unfold numV Pl.numS; rw [hl]; simp only; rw [if_neg (by intro h; rcases h with h | h <;> contradiction), hr])
      clear hi hl hlen hno hst h0 hTd h1 hx hxm hx13 hb hr hs0
      go_enter Tryd.func45, Tryd.ntmps45
      go_wp2_with fail
      ((with_reducible refine (HI.out _).mono ?_); rintro e w4 ⟨rfl, b4⟩)
      have E4 := Lib.hid (HE.out.kept b4)
      have B4 := Lib.hid b4
      clear b4
      go_wp2_with fail
      ((with_reducible refine (HP.out _ E4.out).mono ?_); rintro e w5 ⟨rfl, b5⟩)
      have E5 := Lib.hid (E4.out.kept b5)
      have B5 := Lib.hid (B4.out.trans (b5.mono B4.out.size))
      clear b5
      go_wp2_with fail
      ((with_reducible refine (HS.out _ E5.out).mono ?_); rintro e w6 ⟨rfl, b6⟩)
      go_wp2
      go_ret3
      exact ⟨by rw [HV.out]; rfl, B5.out.trans (b6.mono B5.out.size)⟩
    · have HP := Lib.hid (fun W h => parse_at hT hTd hr W h)
      simp only [optV] at HP
      rw [hr] at hst
      simp only [Option.isSome] at hst
      have HS := Lib.hid hst
      have HV : Hid (numV (-9223372036854775808) 9223372036854775807 S p = .tuple #[.int .i64 0, .int .i64 0, .int .i64 31]) := (by show _ = _; unfold numV Pl.numS; rw [hl]; simp only; rw [if_neg (by intro h; rcases h with h | h <;> contradiction), hr]; simp only; rw [if_neg (range64 hr)])
      clear hi hl hlen hno hst h0 hTd h1 hx hxm hx13 hb hr hs0
      go_enter Tryd.func45, Tryd.ntmps45
      go_wp2_with fail
      ((with_reducible refine (HI.out _).mono ?_); rintro e w4 ⟨rfl, b4⟩)
      have E4 := Lib.hid (HE.out.kept b4)
      have B4 := Lib.hid b4
      clear b4
      go_wp2_with fail
      ((with_reducible refine (HP.out _ E4.out).mono ?_); rintro e w5 ⟨rfl, b5⟩)
      have E5 := Lib.hid (E4.out.kept b5)
      have B5 := Lib.hid (B4.out.trans (b5.mono B4.out.size))
      clear b5
      go_wp2_with fail
      ((with_reducible refine (HS.out _ E5.out).mono ?_); rintro e w6 ⟨rfl, b6⟩)
      go_wp2
      go_ret3
      exact ⟨by rw [HV.out]; rfl, B5.out.trans (b6.mono B5.out.size)⟩
end Go.Proofs.YtpngmbdchceikaaDoor
