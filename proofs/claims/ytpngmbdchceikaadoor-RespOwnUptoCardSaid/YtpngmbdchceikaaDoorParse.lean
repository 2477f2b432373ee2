/- The number of a text: the program's and the reference's tell what the plain reading tells. -/
import Derived.Test.YtpngmbdchceikaaDoorDoor
import Derived.Test.YtpngmbdchceikaaDoorPlainParse
import Derived.Lib.ParseIntBTie
import Derived.Lib.AtoiErrMem
namespace Go.Proofs.YtpngmbdchceikaaDoor
open Go.ChangeShapes Go.WideShapes Go.ChangeAt Go.RowKit
set_option linter.unusedVariables false

def optV (o : Option Int) : Value := match o with | some n => .tuple #[.int .i64 n, .int .i64 0] | none => .tuple #[.int .i64 0, .int .i64 10]
theorem parse_bounds {l : List UInt8} {v : Int} (h : Lib.parseIntB 64 l = .ok v) : -9223372036854775808 ≤ v ∧ v ≤ 9223372036854775807 := by
  have := Lib.parseIntB_bounds h
  have e : ((2 ^ (64 - 1) : Nat) : Int) = 9223372036854775808 := by decide
  rw [e] at this
  omega
theorem numP_eq (l : List UInt8) : Pl.numP l = Pl.refP l := Pl.numP_refP l fun v h => parse_bounds h

set_option maxHeartbeats 800000 in
theorem numParse_ok (s : ByteArray) (hs : s.size ≤ 140737488351232) (v : Int) (hp : Lib.parseIntB 64 s.data.toList = .ok v) (w : World) (h : Pows w) :
    Calls Tryd.prog 57 #[.string s] w fun e w' => e = .returned (optV (if Lib.itoa v = s.data.toList then some v else none)) ∧ Below w.heap.size w w' := by
  have H := Lib.hid h
  have HP := Lib.hid hp
  obtain ⟨h1, h2⟩ := parse_bounds hp
  clear h hp
  go_enter Tryd.func57, Tryd.ntmps57
  go_wp2_with fail
  ((with_reducible refine (Tryd.strconv_ParseInt_10_at64_ok s (by omega) v HP.out _).mono ?_); rintro e w1 ⟨rfl, hw⟩)
  have b1 : Below w.heap.size w w1 := by
    rcases hw with rfl | ⟨t, rfl⟩
    · exact Below.refl _ _
    · exact Lib.bytesWorld_below _ _ _
  have HW := Lib.hid b1
  clear hw b1
  go_wp2_with fail
  ((with_reducible refine (formatInt_any v h1 h2 _ (H.out.kept (B := 0) HW.out)).mono ?_); rintro e w2 ⟨rfl, b2⟩)
  by_cases he : Lib.itoa v = s.data.toList
  · have hb : (!((str (Lib.itoa v)).toList == s.toList)) = false := by
      rw [ByteArray.toList_eq, ByteArray.toList_eq, str_toList, he]; simp
    have hb2 : ((str (Lib.itoa v)).toList != s.toList) = false := hb
    have HE := Lib.hid he
    clear he
    go_wp2
    go_ret2
    exact ⟨by first | rfl | (rw [if_pos HE.out]; rfl), HW.out.trans (b2.mono HW.out.size)⟩
  · have hb : (!((str (Lib.itoa v)).toList == s.toList)) = true := by
      rw [ByteArray.toList_eq, ByteArray.toList_eq, str_toList]
      simpa using he
    have hb2 : ((str (Lib.itoa v)).toList != s.toList) = true := hb
    have HE := Lib.hid he
    clear he
    go_wp2
    go_ret2
    exact ⟨by first | rfl | (rw [if_neg HE.out]; rfl), HW.out.trans (b2.mono HW.out.size)⟩
theorem numParse_any (s : ByteArray) (hs : s.size ≤ 140737488351232) (w : World) (h : Pows w) (hv : Sents w) :
    Calls Tryd.prog 57 #[.string s] w fun e w' => e = .returned (optV (Pl.refP s.data.toList)) ∧ Below w.heap.size w w' := by
  rw [← numP_eq]
  unfold Pl.numP
  obtain ⟨t1, p1, t2, p2, v1, v2⟩ := hv
  rcases hp : Lib.parseIntB 64 s.data.toList with v | _ | _
  · exact numParse_ok s hs v hp w h
  · have HP := Lib.hid hp
    have V1 := Lib.hid v1
    clear hp v1 v2 h
    go_enter Tryd.func57, Tryd.ntmps57
    go_wp2_with fail
    ((refine (Any.strconv_ParseInt_10_at64_syntax_var Tryd.laysC174 s (by omega) HP.out t1 p1 _ V1.out).mono ?_); rintro e w1 ⟨N, rfl, hN, hc, b1⟩)
    clear hN hc
    go_wp2
    go_ret2
    exact ⟨rfl, b1⟩
  · have HP := Lib.hid hp
    have V2 := Lib.hid v2
    clear hp v1 v2 h
    go_enter Tryd.func57, Tryd.ntmps57
    go_wp2_with fail
    ((refine (Any.strconv_ParseInt_10_at64_range_var Tryd.laysC174 s (by omega) HP.out t2 p2 _ V2.out).mono ?_); rintro e w1 ⟨N, rfl, hN, hc, b1⟩)
    clear hN hc
    generalize Lib.intSat 64 _ = z
    go_wp2
    go_ret2
    exact ⟨rfl, b1⟩

/-! The reference. -/
theorem mag_eq (s : ByteArray) : (if Pl.below s.data.toList then s.extract 1 s.size else s).data.toList = Pl.mag s.data.toList := by
  unfold Pl.mag
  split
  · rw [Lib.extract_data, List.take_of_length_le (by simp)]; simp
  · rfl
theorem first_is {t : ByteArray} (h : 0 < t.size) : t.data.toList.head? = some (t[0]'h) := by
  rw [List.head?_eq_getElem?, List.getElem?_eq_getElem (by simpa using h)]
  rfl
theorem first_byte {t : ByteArray} (h : 0 < t.size) (c : UInt8) : (((t[0]'h).toNat : Int) == (c.toNat : Int)) = (t.data.toList.head? == some c) := by
  rw [first_is h, Bool.eq_iff_iff, beq_iff_eq, beq_iff_eq]
  constructor
  · intro h2; congr 1; exact UInt8.toNat_inj.1 (by omega)
  · intro h2; simp at h2; rw [h2]
theorem ref_bad {l : List UInt8} {T : ByteArray} {bl : Bool} (hT : T.data.toList = Pl.mag l) (hB : Pl.below l = bl) (h : T.size = 0 ∨ 19 < T.size ∨ (T.data.toList.head? = some 48 ∧ (1 < T.size ∨ bl = true))) : Pl.refP l = none := by
  unfold Pl.refP
  rw [if_pos]
  left
  unfold Pl.bad
  rw [← hT, hB, len_toList]
  rcases h with h | h | ⟨h, h2⟩
  · simp [h]
  · simp [h]
  · rcases h2 with h2 | h2 <;> simp [h, h2]
theorem ref_good {l : List UInt8} {T : ByteArray} {bl : Bool} (hT : T.data.toList = Pl.mag l) (hB : Pl.below l = bl) (h0 : 0 < T.size) (h19 : T.size ≤ 19) (h48 : T.data.toList.head? = some 48 → ¬ (1 < T.size ∨ bl = true)) :
    Pl.refP l = if Pl.digs T.data.toList = false then none else if bl then (if 9223372036854775808 < Pl.valA 0 T.data.toList then none else some (-(Pl.valA 0 T.data.toList : Int))) else if 9223372036854775807 < Pl.valA 0 T.data.toList then none else some (Pl.valA 0 T.data.toList) := by
  have hb : Pl.bad l = false := by
    unfold Pl.bad
    rw [← hT, hB, len_toList]
    rw [decide_eq_false (show ¬ T.size = 0 by omega), decide_eq_false (show ¬ 19 < T.size by omega)]
    by_cases h : T.data.toList.head? = some 48
    · have := h48 h
      simp only [not_or, Bool.not_eq_true] at this
      rw [decide_eq_false this.1, this.2]
      simp
    · simp [h]
  unfold Pl.refP
  rw [hb, hB, ← hT]
  simp
theorem ref_goodT {l : List UInt8} {T : ByteArray} (hT : T.data.toList = Pl.mag l) (hB : Pl.below l = true) (h0 : 0 < T.size) (h19 : T.size ≤ 19) (h48 : T.data.toList.head? ≠ some 48) :
    Pl.refP l = if Pl.digs T.data.toList = false then none else if 9223372036854775808 < Pl.valA 0 T.data.toList then none else some (-(Pl.valA 0 T.data.toList : Int)) := by
  have := ref_good hT hB h0 h19 (fun h => absurd h h48)
  simpa using this
theorem valA_lt (l : List UInt8) : ∀ (a k : Nat), Pl.digs l = true → a < 10 ^ k → Pl.valA a l < 10 ^ (k + l.length) := by
  induction l with
  | nil => intro a k _ h; exact h
  | cons c l ih =>
    intro a k hd h
    have h1 : Pl.isDig c = true ∧ Pl.digs l = true := by simpa [Pl.digs] using hd
    have h2 := Pl.isDig_iff.1 h1.1
    rw [Pl.valA_cons]
    have := ih (10 * a + (c.toNat - 48)) (k + 1) h1.2 (by rw [Nat.pow_succ]; omega)
    rw [List.length_cons, show k + (l.length + 1) = k + 1 + l.length by omega]
    exact this
theorem pow19 : (10 : Nat) ^ 19 = 10000000000000000000 := by decide
theorem pow18 : (10 : Nat) ^ 18 = 1000000000000000000 := by decide
theorem val_bound {l : List UInt8} (hd : Pl.digs l = true) (hl : l.length ≤ 19) : Pl.valA 0 l < 10000000000000000000 := by
  have := valA_lt l 0 0 hd (by decide)
  rw [← pow19]
  exact Nat.lt_of_lt_of_le this (Nat.pow_le_pow_right (by decide) (by omega))
theorem val_bound18 {l : List UInt8} (hd : Pl.digs l = true) (hl : l.length ≤ 18) : Pl.valA 0 l < 1000000000000000000 := by
  have := valA_lt l 0 0 hd (by decide)
  rw [← pow18]
  exact Nat.lt_of_lt_of_le this (Nat.pow_le_pow_right (by decide) (by omega))
theorem digs_more {l : List UInt8} {k : Nat} {c : UInt8} (hk : l[k]? = some c) : Pl.digs (l.take (k + 1)) = (Pl.digs (l.take k) && Pl.isDig c) := by
  obtain ⟨h1, h2⟩ := List.getElem?_eq_some_iff.1 hk
  rw [List.take_succ_eq_append_getElem h1, h2, Pl.digs_snoc]
theorem val_more {l : List UInt8} {k : Nat} {c : UInt8} (hk : l[k]? = some c) : Pl.valA 0 (l.take (k + 1)) = 10 * Pl.valA 0 (l.take k) + (c.toNat - 48) := by
  obtain ⟨h1, h2⟩ := List.getElem?_eq_some_iff.1 hk
  rw [List.take_succ_eq_append_getElem h1, h2, Pl.valA_snoc]
theorem digs_not {l : List UInt8} {k : Nat} {c : UInt8} (hk : l[k]? = some c) (hc : Pl.isDig c = false) : Pl.digs l = false := by
  unfold Pl.digs
  rw [List.all_eq_false]
  exact ⟨c, List.mem_of_getElem? hk, by simp [hc]⟩

theorem take_full (T : ByteArray) : T.data.toList.take T.size = T.data.toList := List.take_of_length_le (by simp)
theorem neg_back {a : Int} (h0 : 0 ≤ a) (h1 : a ≤ 9223372036854775808) : IntKind.i64.wrap (IntKind.u64.wrap (-a)) = -a := by
  unfold IntKind.wrap
  simp [IntKind.signed, IntKind.bits]
  omega
theorem pos_back {a : Int} (h0 : 0 ≤ a) (h1 : a ≤ 9223372036854775807) : IntKind.i64.wrap a = a := by
  unfold IntKind.wrap
  simp [IntKind.signed, IntKind.bits]
  omega
theorem optV_some (n : Int) : optV (some n) = .tuple #[.int .i64 n, .int .i64 0] := rfl
set_option maxHeartbeats 3200000 in
set_option maxRecDepth 100000 in
theorem refParse_one (s : ByteArray) (hcase : s.size ≤ 1) (w : World) :
    Calls Tryd.prog 60 #[.string s] w fun e w' => e = .returned (optV (Pl.refP s.data.toList)) ∧ Below w.heap.size w w' := by
  have hsI : ((s.size : Nat) : Int) ≤ 1 := by omega
  have HB : Hid (Pl.below s.data.toList = false) := by show _ = _; unfold Pl.below; rw [len_toList, decide_eq_false (by omega)]; rfl
  obtain ⟨T, rfl⟩ : ∃ T, T = s := ⟨_, rfl⟩
  have HT : Hid (T.data.toList = Pl.mag T.data.toList) := by show _ = _; unfold Pl.mag; rw [HB.out]; rfl
  go_enter Tryd.func60, Tryd.ntmps60
  by_cases z0 : T.size = 0
  · have y0 : ((T.size : Int) == 0) = true := by rw [beq_iff_eq]; omega
    have Z := Lib.hid z0
    clear z0
    go_wp2
    go_ret2
    exact ⟨by rw [ref_bad HT.out HB.out (.inl Z.out)]; rfl, Below.refl _ _⟩
  have y0 : ((T.size : Int) == 0) = false := by rw [beq_eq_false_iff_ne]; omega
  have hpos : 0 < T.size := by omega
  clear z0
  by_cases z1 : 19 < T.size
  · have y1 : (19 : Int) < (T.size : Int) := by omega
    first
      | (exfalso; omega)
      | (go_wp2
         go_ret2
         exact ⟨by rw [ref_bad HT.out HB.out (.inr (.inl z1))]; rfl, Below.refl _ _⟩)
  have zz1 : T.size ≤ 19 := by omega
  have y1 : (T.size : Int) ≤ 19 := by omega
  clear z1
  have hf := first_byte hpos 48
  have e48 : (((48 : UInt8).toNat : Nat) : Int) = 48 := rfl
  rw [e48] at hf
  by_cases z2 : T.data.toList.head? = some 48
  · have y2 : ((T[0].toNat : Int) == 48) = true := by rw [hf, z2]; rfl
    have Z2 := Lib.hid z2
    clear z2 hf e48
    have y3 : (T.size : Int) ≤ 1 := by omega
    have HG := Lib.hid (ref_good HT.out HB.out hpos zz1 (fun _ h => h.elim (fun h => by omega) (fun h => by cases h)))
    go_wp2
    go_loop [6, 7] (fun n i => ∃ (k : Nat) (a : Int), k ≤ T.size ∧ i = .int .i64 k ∧ n = .int .u64 a ∧ 0 ≤ a ∧ Hid (a = Pl.valA 0 (T.data.toList.take k) ∧ Pl.digs (T.data.toList.take k) = true)) (fun _ i => T.size - (intOf i).toNat)
    case atStart => exact ⟨0, 0, Nat.zero_le _, rfl, rfl, by omega, by simp [Pl.valA], by simp [Pl.digs]⟩
    case round =>
      obtain ⟨k, a, hk, rfl, rfl, ha0, HA⟩ := hrel
      by_cases hlt : k < T.size
      · have hx : T.data.toList[k]? = some (T[k]'hlt) := by rw [List.getElem?_eq_getElem (by simpa using hlt)]; rfl
        have HX := Lib.hid hx
        clear hx
        by_cases h1 : T[k].toNat < 48
        · have hc : Pl.isDig T[k] = false := by unfold Pl.isDig; rw [decide_eq_false_iff_not]; omega
          have HC := Lib.hid hc
          have h1I : ((T[k].toNat : Nat) : Int) < 48 := by omega
          clear hc h1
          go_wp2
          go_ret2
          exact ⟨by rw [HG.out, if_pos (digs_not HX.out HC.out)]; rfl, Below.refl _ _⟩
        by_cases h2 : 57 < T[k].toNat
        · have hc : Pl.isDig T[k] = false := by unfold Pl.isDig; rw [decide_eq_false_iff_not]; omega
          have HC := Lib.hid hc
          have h1I : (48 : Int) ≤ ((T[k].toNat : Nat) : Int) := by omega
          have h2I : (57 : Int) < ((T[k].toNat : Nat) : Int) := by omega
          clear hc h1 h2
          go_wp2
          go_ret2
          exact ⟨by rw [HG.out, if_pos (digs_not HX.out HC.out)]; rfl, Below.refl _ _⟩
        have hc : Pl.isDig T[k] = true := by rw [Pl.isDig_iff]; omega
        have ha18 := val_bound18 HA.out.2 (by rw [List.length_take]; omega)
        have ha : a ≤ 1000000000000000000 := by have := HA.out.1; omega
        have HC := Lib.hid hc
        have h1I : (48 : Int) ≤ ((T[k].toNat : Nat) : Int) := by omega
        have h2I : ((T[k].toNat : Nat) : Int) ≤ 57 := by omega
        have HN : Hid (10 * a + (((T[k].toNat : Nat) : Int) - 48) = Pl.valA 0 (T.data.toList.take (k + 1)) ∧ Pl.digs (T.data.toList.take (k + 1)) = true) := by
          refine ⟨?_, by rw [digs_more HX.out, HA.out.2, HC.out]; rfl⟩
          rw [val_more HX.out]
          have := HA.out.1
          omega
        clear hc ha18 h1 h2
        go_wp2
        go_round
        case rel => exact ⟨k + 1, _, by omega, by go_num, rfl, by omega, HN⟩
        case measure => simp [intOf]; omega
      · obtain rfl : T.size = k := by omega
        rw [take_full] at HA
        have hab := val_bound HA.out.2 (by rw [len_toList]; exact zz1)
        have ha : a ≤ 10000000000000000000 := by have := HA.out.1; omega
        clear hab
        by_cases hv : 9223372036854775807 < a
        · have HV : Hid (9223372036854775807 < Pl.valA 0 T.data.toList) := by have := HA.out.1; show _ < _; omega
          go_wp2
          go_ret2
          exact ⟨by rw [HG.out, if_neg (by rw [HA.out.2]; simp), if_neg (by simp), if_pos HV.out]; rfl, Below.refl _ _⟩
        · have HV : Hid (¬ 9223372036854775807 < Pl.valA 0 T.data.toList) := by have := HA.out.1; show ¬ _; omega
          have hw := pos_back ha0 (by omega)
          go_wp2
          go_ret2
          exact ⟨by rw [HG.out, if_neg (by rw [HA.out.2]; simp), if_neg (by simp), if_neg HV.out, ← HA.out.1]; rfl, Below.refl _ _⟩
  have y2 : ((T[0].toNat : Int) == 48) = false := by rw [hf]; simpa using z2
  have HG := Lib.hid (ref_good HT.out HB.out hpos zz1 (fun h => absurd h z2))
  clear z2 hf e48
  go_wp2
  go_loop [6, 7] (fun n i => ∃ (k : Nat) (a : Int), k ≤ T.size ∧ i = .int .i64 k ∧ n = .int .u64 a ∧ 0 ≤ a ∧ Hid (a = Pl.valA 0 (T.data.toList.take k) ∧ Pl.digs (T.data.toList.take k) = true)) (fun _ i => T.size - (intOf i).toNat)
  case atStart => exact ⟨0, 0, Nat.zero_le _, rfl, rfl, by omega, by simp [Pl.valA], by simp [Pl.digs]⟩
  case round =>
    obtain ⟨k, a, hk, rfl, rfl, ha0, HA⟩ := hrel
    by_cases hlt : k < T.size
    · have hx : T.data.toList[k]? = some (T[k]'hlt) := by rw [List.getElem?_eq_getElem (by simpa using hlt)]; rfl
      have HX := Lib.hid hx
      clear hx
      by_cases h1 : T[k].toNat < 48
      · have hc : Pl.isDig T[k] = false := by unfold Pl.isDig; rw [decide_eq_false_iff_not]; omega
        have HC := Lib.hid hc
        have h1I : ((T[k].toNat : Nat) : Int) < 48 := by omega
        clear hc h1
        go_wp2
        go_ret2
        exact ⟨by rw [HG.out, if_pos (digs_not HX.out HC.out)]; rfl, Below.refl _ _⟩
      by_cases h2 : 57 < T[k].toNat
      · have hc : Pl.isDig T[k] = false := by unfold Pl.isDig; rw [decide_eq_false_iff_not]; omega
        have HC := Lib.hid hc
        have h1I : (48 : Int) ≤ ((T[k].toNat : Nat) : Int) := by omega
        have h2I : (57 : Int) < ((T[k].toNat : Nat) : Int) := by omega
        clear hc h1 h2
        go_wp2
        go_ret2
        exact ⟨by rw [HG.out, if_pos (digs_not HX.out HC.out)]; rfl, Below.refl _ _⟩
      have hc : Pl.isDig T[k] = true := by rw [Pl.isDig_iff]; omega
      have ha18 := val_bound18 HA.out.2 (by rw [List.length_take]; omega)
      have ha : a ≤ 1000000000000000000 := by have := HA.out.1; omega
      have HC := Lib.hid hc
      have h1I : (48 : Int) ≤ ((T[k].toNat : Nat) : Int) := by omega
      have h2I : ((T[k].toNat : Nat) : Int) ≤ 57 := by omega
      have HN : Hid (10 * a + (((T[k].toNat : Nat) : Int) - 48) = Pl.valA 0 (T.data.toList.take (k + 1)) ∧ Pl.digs (T.data.toList.take (k + 1)) = true) := by
        refine ⟨?_, by rw [digs_more HX.out, HA.out.2, HC.out]; rfl⟩
        rw [val_more HX.out]
        have := HA.out.1
        omega
      clear hc ha18 h1 h2
      go_wp2
      go_round
      case rel => exact ⟨k + 1, _, by omega, by go_num, rfl, by omega, HN⟩
      case measure => simp [intOf]; omega
    · obtain rfl : T.size = k := by omega
      rw [take_full] at HA
      have hab := val_bound HA.out.2 (by rw [len_toList]; exact zz1)
      have ha : a ≤ 10000000000000000000 := by have := HA.out.1; omega
      clear hab
      by_cases hv : 9223372036854775807 < a
      · have HV : Hid (9223372036854775807 < Pl.valA 0 T.data.toList) := by have := HA.out.1; show _ < _; omega
        go_wp2
        go_ret2
        exact ⟨by rw [HG.out, if_neg (by rw [HA.out.2]; simp), if_neg (by simp), if_pos HV.out]; rfl, Below.refl _ _⟩
      · have HV : Hid (¬ 9223372036854775807 < Pl.valA 0 T.data.toList) := by have := HA.out.1; show ¬ _; omega
        have hw := pos_back ha0 (by omega)
        go_wp2
        go_ret2
        exact ⟨by rw [HG.out, if_neg (by rw [HA.out.2]; simp), if_neg (by simp), if_neg HV.out, ← HA.out.1]; rfl, Below.refl _ _⟩
set_option maxHeartbeats 3200000 in
set_option maxRecDepth 100000 in
theorem refParse_plain (s : ByteArray) (hs : s.size ≤ 140737488351232) (hcase : 1 < s.size) (hfirst : s.data.toList.head? ≠ some 45) (w : World) :
    Calls Tryd.prog 60 #[.string s] w fun e w' => e = .returned (optV (Pl.refP s.data.toList)) ∧ Below w.heap.size w w' := by
  have hsI : (1 : Int) < ((s.size : Nat) : Int) := by omega
  have hsp : 0 < s.size := by omega
  have hf0 := first_byte hsp 45
  have hm : ((s[0].toNat : Int) == 45) = false := by
    have e45 : (((45 : UInt8).toNat : Nat) : Int) = 45 := rfl
    rw [e45] at hf0
    rw [hf0]; simpa using hfirst
  have HB : Hid (Pl.below s.data.toList = false) := by show _ = _; unfold Pl.below; simp [hfirst]
  clear hf0 hfirst
  obtain ⟨T, rfl⟩ : ∃ T, T = s := ⟨_, rfl⟩
  have HT : Hid (T.data.toList = Pl.mag T.data.toList) := by show _ = _; unfold Pl.mag; rw [HB.out]; rfl
  go_enter Tryd.func60, Tryd.ntmps60
  by_cases z0 : T.size = 0
  · have y0 : ((T.size : Int) == 0) = true := by rw [beq_iff_eq]; omega
    have Z := Lib.hid z0
    clear z0
    go_wp2
    go_ret2
    exact ⟨by rw [ref_bad HT.out HB.out (.inl Z.out)]; rfl, Below.refl _ _⟩
  have y0 : ((T.size : Int) == 0) = false := by rw [beq_eq_false_iff_ne]; omega
  have hpos : 0 < T.size := by omega
  clear z0
  by_cases z1 : 19 < T.size
  · have y1 : (19 : Int) < (T.size : Int) := by omega
    first
      | (exfalso; omega)
      | (go_wp2
         go_ret2
         exact ⟨by rw [ref_bad HT.out HB.out (.inr (.inl z1))]; rfl, Below.refl _ _⟩)
  have zz1 : T.size ≤ 19 := by omega
  have y1 : (T.size : Int) ≤ 19 := by omega
  clear z1
  have hf := first_byte hpos 48
  have e48 : (((48 : UInt8).toNat : Nat) : Int) = 48 := rfl
  rw [e48] at hf
  by_cases z2 : T.data.toList.head? = some 48
  · have y2 : ((T[0].toNat : Int) == 48) = true := by rw [hf, z2]; rfl
    have Z2 := Lib.hid z2
    clear z2 hf e48
    go_wp2
    go_ret2
    exact ⟨by rw [ref_bad HT.out HB.out (.inr (.inr ⟨Z2.out, .inl hcase⟩))]; rfl, Below.refl _ _⟩
  have y2 : ((T[0].toNat : Int) == 48) = false := by rw [hf]; simpa using z2
  have HG := Lib.hid (ref_good HT.out HB.out hpos zz1 (fun h => absurd h z2))
  clear z2 hf e48
  go_wp2
  go_loop [6, 7] (fun n i => ∃ (k : Nat) (a : Int), k ≤ T.size ∧ i = .int .i64 k ∧ n = .int .u64 a ∧ 0 ≤ a ∧ Hid (a = Pl.valA 0 (T.data.toList.take k) ∧ Pl.digs (T.data.toList.take k) = true)) (fun _ i => T.size - (intOf i).toNat)
  case atStart => exact ⟨0, 0, Nat.zero_le _, rfl, rfl, by omega, by simp [Pl.valA], by simp [Pl.digs]⟩
  case round =>
    obtain ⟨k, a, hk, rfl, rfl, ha0, HA⟩ := hrel
    by_cases hlt : k < T.size
    · have hx : T.data.toList[k]? = some (T[k]'hlt) := by rw [List.getElem?_eq_getElem (by simpa using hlt)]; rfl
      have HX := Lib.hid hx
      clear hx
      by_cases h1 : T[k].toNat < 48
      · have hc : Pl.isDig T[k] = false := by unfold Pl.isDig; rw [decide_eq_false_iff_not]; omega
        have HC := Lib.hid hc
        have h1I : ((T[k].toNat : Nat) : Int) < 48 := by omega
        clear hc h1
        go_wp2
        go_ret2
        exact ⟨by rw [HG.out, if_pos (digs_not HX.out HC.out)]; rfl, Below.refl _ _⟩
      by_cases h2 : 57 < T[k].toNat
      · have hc : Pl.isDig T[k] = false := by unfold Pl.isDig; rw [decide_eq_false_iff_not]; omega
        have HC := Lib.hid hc
        have h1I : (48 : Int) ≤ ((T[k].toNat : Nat) : Int) := by omega
        have h2I : (57 : Int) < ((T[k].toNat : Nat) : Int) := by omega
        clear hc h1 h2
        go_wp2
        go_ret2
        exact ⟨by rw [HG.out, if_pos (digs_not HX.out HC.out)]; rfl, Below.refl _ _⟩
      have hc : Pl.isDig T[k] = true := by rw [Pl.isDig_iff]; omega
      have ha18 := val_bound18 HA.out.2 (by rw [List.length_take]; omega)
      have ha : a ≤ 1000000000000000000 := by have := HA.out.1; omega
      have HC := Lib.hid hc
      have h1I : (48 : Int) ≤ ((T[k].toNat : Nat) : Int) := by omega
      have h2I : ((T[k].toNat : Nat) : Int) ≤ 57 := by omega
      have HN : Hid (10 * a + (((T[k].toNat : Nat) : Int) - 48) = Pl.valA 0 (T.data.toList.take (k + 1)) ∧ Pl.digs (T.data.toList.take (k + 1)) = true) := by
        refine ⟨?_, by rw [digs_more HX.out, HA.out.2, HC.out]; rfl⟩
        rw [val_more HX.out]
        have := HA.out.1
        omega
      clear hc ha18 h1 h2
      go_wp2
      go_round
      case rel => exact ⟨k + 1, _, by omega, by go_num, rfl, by omega, HN⟩
      case measure => simp [intOf]; omega
    · obtain rfl : T.size = k := by omega
      rw [take_full] at HA
      have hab := val_bound HA.out.2 (by rw [len_toList]; exact zz1)
      have ha : a ≤ 10000000000000000000 := by have := HA.out.1; omega
      clear hab
      by_cases hv : 9223372036854775807 < a
      · have HV : Hid (9223372036854775807 < Pl.valA 0 T.data.toList) := by have := HA.out.1; show _ < _; omega
        go_wp2
        go_ret2
        exact ⟨by rw [HG.out, if_neg (by rw [HA.out.2]; simp), if_neg (by simp), if_pos HV.out]; rfl, Below.refl _ _⟩
      · have HV : Hid (¬ 9223372036854775807 < Pl.valA 0 T.data.toList) := by have := HA.out.1; show ¬ _; omega
        have hw := pos_back ha0 (by omega)
        go_wp2
        go_ret2
        exact ⟨by rw [HG.out, if_neg (by rw [HA.out.2]; simp), if_neg (by simp), if_neg HV.out, ← HA.out.1]; rfl, Below.refl _ _⟩
set_option maxHeartbeats 3200000 in
set_option maxRecDepth 100000 in
theorem refParse_minus (s : ByteArray) (hs : s.size ≤ 140737488351232) (hcase : 1 < s.size) (hfirst : s.data.toList.head? = some 45) (w : World) :
    Calls Tryd.prog 60 #[.string s] w fun e w' => e = .returned (optV (Pl.refP s.data.toList)) ∧ Below w.heap.size w w' := by
  have hsI : (1 : Int) < ((s.size : Nat) : Int) := by omega
  have hsp : 0 < s.size := by omega
  have hf0 := first_byte hsp 45
  have hm : ((s[0].toNat : Int) == 45) = true := by
    have e45 : (((45 : UInt8).toNat : Nat) : Int) = 45 := rfl
    rw [e45] at hf0
    rw [hf0, hfirst]; rfl
  have HB : Hid (Pl.below s.data.toList = true) := by show _ = _; unfold Pl.below; rw [len_toList, decide_eq_true hcase, hfirst]; rfl
  have HT0 : Hid ((s.extract 1 s.size).data.toList = Pl.mag s.data.toList) := by
    have := mag_eq s
    rw [HB.out, if_pos rfl] at this
    exact this
  have hsz : (s.extract 1 s.size).size = s.size - 1 := by rw [ByteArray.size_extract]; omega
  clear hf0 hfirst
  obtain ⟨T, hT⟩ : ∃ T, s.extract 1 s.size = T := ⟨_, rfl⟩
  rw [hT] at HT0 hsz
  have HT := HT0
  clear HT0
  have hsz2 : T.size ≤ 140737488351232 := by omega
  clear hsz
  go_enter Tryd.func60, Tryd.ntmps60
  by_cases z0 : T.size = 0
  · have y0 : ((T.size : Int) == 0) = true := by rw [beq_iff_eq]; omega
    have Z := Lib.hid z0
    clear z0
    go_wp2
    go_ret2
    exact ⟨by rw [ref_bad HT.out HB.out (.inl Z.out)]; rfl, Below.refl _ _⟩
  have y0 : ((T.size : Int) == 0) = false := by rw [beq_eq_false_iff_ne]; omega
  have hpos : 0 < T.size := by omega
  clear z0
  by_cases z1 : 19 < T.size
  · have y1 : (19 : Int) < (T.size : Int) := by omega
    first
      | (exfalso; omega)
      | (go_wp2
         go_ret2
         exact ⟨by rw [ref_bad HT.out HB.out (.inr (.inl z1))]; rfl, Below.refl _ _⟩)
  have zz1 : T.size ≤ 19 := by omega
  have y1 : (T.size : Int) ≤ 19 := by omega
  clear z1
  have hf := first_byte hpos 48
  have e48 : (((48 : UInt8).toNat : Nat) : Int) = 48 := rfl
  rw [e48] at hf
  by_cases z2 : T.data.toList.head? = some 48
  · have y2 : ((T[0].toNat : Int) == 48) = true := by rw [hf, z2]; rfl
    have Z2 := Lib.hid z2
    clear z2 hf e48
    by_cases z3 : 1 < T.size
    · have y3 : (1 : Int) < (T.size : Int) := by omega
      go_wp2
      go_ret2
      exact ⟨by rw [ref_bad HT.out HB.out (.inr (.inr ⟨Z2.out, .inr rfl⟩))]; rfl, Below.refl _ _⟩
    have y3 : (T.size : Int) ≤ 1 := by omega
    go_wp2
    go_ret2
    exact ⟨by rw [ref_bad HT.out HB.out (.inr (.inr ⟨Z2.out, .inr rfl⟩))]; rfl, Below.refl _ _⟩
  have y2 : ((T[0].toNat : Int) == 48) = false := by rw [hf]; simpa using z2
  have HG := Lib.hid (ref_goodT HT.out HB.out hpos zz1 z2)
  clear z2 hf e48
  go_wp2
  go_loop [6, 7] (fun n i => ∃ (k : Nat) (a : Int), k ≤ T.size ∧ i = .int .i64 k ∧ n = .int .u64 a ∧ 0 ≤ a ∧ Hid (a = Pl.valA 0 (T.data.toList.take k) ∧ Pl.digs (T.data.toList.take k) = true)) (fun _ i => T.size - (intOf i).toNat)
  case atStart => exact ⟨0, 0, Nat.zero_le _, rfl, rfl, by omega, by simp [Pl.valA], by simp [Pl.digs]⟩
  case round =>
    obtain ⟨k, a, hk, rfl, rfl, ha0, HA⟩ := hrel
    by_cases hlt : k < T.size
    · have hx : T.data.toList[k]? = some (T[k]'hlt) := by rw [List.getElem?_eq_getElem (by simpa using hlt)]; rfl
      have HX := Lib.hid hx
      clear hx
      by_cases h1 : T[k].toNat < 48
      · have hc : Pl.isDig T[k] = false := by unfold Pl.isDig; rw [decide_eq_false_iff_not]; omega
        have HC := Lib.hid hc
        have h1I : ((T[k].toNat : Nat) : Int) < 48 := by omega
        clear hc h1
        go_wp2
        go_ret2
        exact ⟨by rw [HG.out, if_pos (digs_not HX.out HC.out)]; rfl, Below.refl _ _⟩
      by_cases h2 : 57 < T[k].toNat
      · have hc : Pl.isDig T[k] = false := by unfold Pl.isDig; rw [decide_eq_false_iff_not]; omega
        have HC := Lib.hid hc
        have h1I : (48 : Int) ≤ ((T[k].toNat : Nat) : Int) := by omega
        have h2I : (57 : Int) < ((T[k].toNat : Nat) : Int) := by omega
        clear hc h1 h2
        go_wp2
        go_ret2
        exact ⟨by rw [HG.out, if_pos (digs_not HX.out HC.out)]; rfl, Below.refl _ _⟩
      have hc : Pl.isDig T[k] = true := by rw [Pl.isDig_iff]; omega
      have ha18 := val_bound18 HA.out.2 (by rw [List.length_take]; omega)
      have ha : a ≤ 1000000000000000000 := by have := HA.out.1; omega
      have HC := Lib.hid hc
      have h1I : (48 : Int) ≤ ((T[k].toNat : Nat) : Int) := by omega
      have h2I : ((T[k].toNat : Nat) : Int) ≤ 57 := by omega
      have HN : Hid (10 * a + (((T[k].toNat : Nat) : Int) - 48) = Pl.valA 0 (T.data.toList.take (k + 1)) ∧ Pl.digs (T.data.toList.take (k + 1)) = true) := by
        refine ⟨?_, by rw [digs_more HX.out, HA.out.2, HC.out]; rfl⟩
        rw [val_more HX.out]
        have := HA.out.1
        omega
      clear hc ha18 h1 h2
      go_wp2
      go_round
      case rel => exact ⟨k + 1, _, by omega, by go_num, rfl, by omega, HN⟩
      case measure => simp [intOf]; omega
    · obtain rfl : T.size = k := by omega
      rw [take_full] at HA
      have hab := val_bound HA.out.2 (by rw [len_toList]; exact zz1)
      have ha : a ≤ 10000000000000000000 := by have := HA.out.1; omega
      clear hab
      by_cases hv : 9223372036854775808 < a
      · have HV : Hid (9223372036854775808 < Pl.valA 0 T.data.toList) := by have := HA.out.1; show _ < _; omega
        go_wp2
        go_ret2
        exact ⟨by rw [HG.out, if_neg (by rw [HA.out.2]; simp), if_pos HV.out]; rfl, Below.refl _ _⟩
      · have HV : Hid (¬ 9223372036854775808 < Pl.valA 0 T.data.toList) := by have := HA.out.1; show ¬ _; omega
        have hw := neg_back ha0 (by omega)
        go_wp2
        go_ret2
        exact ⟨by rw [HG.out, if_neg (by rw [HA.out.2]; simp), if_neg HV.out, ← HA.out.1]; rfl, Below.refl _ _⟩
theorem refParse_any (s : ByteArray) (hs : s.size ≤ 140737488351232) (w : World) :
    Calls Tryd.prog 60 #[.string s] w fun e w' => e = .returned (optV (Pl.refP s.data.toList)) ∧ Below w.heap.size w w' := by
  by_cases h : s.size ≤ 1
  · exact refParse_one s h w
  by_cases hf : s.data.toList.head? = some 45
  · exact refParse_minus s hs (by omega) hf w
  · exact refParse_plain s hs (by omega) hf w
end Go.Proofs.YtpngmbdchceikaaDoor
