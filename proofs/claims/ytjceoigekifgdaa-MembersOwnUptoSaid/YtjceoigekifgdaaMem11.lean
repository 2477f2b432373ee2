/- Valid, Has. -/
import Derived.Test.YtjceoigekifgdaaMem10
namespace Go.Proofs.Ytjceoigekifgdaa
open Go.ChangeShapes Go.WideShapes Go.ChangeAt Go.RowKit Go.Sort
set_option linter.unusedVariables false

def Pl.Chain (ts : List Tx) : Prop := ∀ j (h : j + 1 < ts.length), ts[j]'(by omega) < ts[j + 1]
noncomputable def Pl.valid (ts : List Tx) : Bool := @decide (Pl.Chain ts) (Classical.propDecidable _)
theorem valid_yes {ts : List Tx} (h : Pl.Chain ts) : Pl.valid ts = true := by unfold Pl.valid; exact @decide_eq_true _ (Classical.propDecidable _) h
theorem valid_no {ts : List Tx} (h : ¬ Pl.Chain ts) : Pl.valid ts = false := by unfold Pl.valid; exact @decide_eq_false _ (Classical.propDecidable _) h
theorem valid_rising {ts : List Tx} (h : Pl.Rising ts) : Pl.valid ts = true := valid_yes fun j hj => List.pairwise_iff_getElem.1 h j (j + 1) _ _ (by omega)

set_option maxHeartbeats 1600000 in
theorem valid_any (ts : List Tx) (v : Value) (hn : ts.length ≤ 9223372036854775000) (w : World) (h : TRow w v ts) :
    Calls Try.prog 22 #[v] w fun e w' => e = .returned (.bool (Pl.valid ts)) ∧ ∃ n, w' = w.drewN n := by
  obtain ⟨ao, cp, rfl, hh⟩ := h.open
  have H := Lib.hid hh
  clear h hh
  go_enter Try.func22, Try.ntmps22
  go_wp2
  go_loopw [3] (fun i wr => ∃ k : Nat, 1 ≤ k ∧ (k ≤ ts.length ∨ k = 1) ∧ i = .int .i64 k ∧ Hid (∀ j (h : j + 1 < ts.length), j + 1 < k → ts[j]'(by omega) < ts[j + 1]) ∧ Hid (∃ n, wr = w.drewN n)) (fun i _ => ts.length + 1 - (intOf i).toNat)
  case atStart => exact ⟨1, by omega, .inr rfl, rfl, fun j h h2 => by omega, ⟨0, rfl⟩⟩
  case round =>
    obtain ⟨k, hk1, hk2, rfl, HL, HW⟩ := hrel
    obtain ⟨n, rfl⟩ := HW.out
    clear HW
    by_cases hlt : k < ts.length
    · obtain ⟨p, hp⟩ : ∃ p, k = p + 1 := ⟨k - 1, by omega⟩
      obtain ⟨x, hx⟩ : ∃ x, ts[p]? = some x := ⟨ts[p]'(by omega), List.getElem?_eq_getElem _⟩
      obtain ⟨y, hy⟩ : ∃ y, ts[k]? = some y := ⟨ts[k], List.getElem?_eq_getElem hlt⟩
      rcases H.out with h0 | ⟨g, off, rfl, hg, hc⟩
      · rw [h0] at hlt; exact absurd hlt (Nat.not_lt_zero _)
      have p1 := hc p x hx
      have p2 := hc k y hy
      have hjI : ((k : Nat) : Int) - 1 = (p : Int) := by omega
      have hpw : IntKind.i64.wrap (p : Int) = (p : Int) := by unfold IntKind.wrap; simp [IntKind.signed, IntKind.bits]; omega
      have q0 : (0 : Int) ≤ (p : Int) := by omega
      have q1 : (p : Int) < (ts.length : Int) := by omega
      have q2 : (0 : Int) ≤ (k : Int) := by omega
      have q3 : (k : Int) < (ts.length : Int) := by omega
      have HP := Lib.hid (And.intro hp (And.intro hx hy))
      clear hc hx hy hp
      by_cases hxy : x < y
      · have b1 : Op.bytesLess (str x).toList (str y).toList = true := by rw [less_str, decide_eq_true hxy]
        have HX := Lib.hid hxy
        clear hxy
        go_wp2_with fail
        go_quiet (fail)
        go_wp2
        go_roundw
        case rel =>
          refine ⟨k + 1, by omega, .inl hlt, by go_num, fun j h hj => ?_, ⟨_, by first | rfl | rw [drewN_add]⟩⟩
          obtain ⟨e1, e2, e3⟩ := HP.out
          by_cases ej : j + 1 < k
          · exact HL.out j h ej
          · obtain rfl : j = p := by omega
            subst e1
            obtain ⟨_, e4⟩ := List.getElem?_eq_some_iff.1 e2
            obtain ⟨_, e5⟩ := List.getElem?_eq_some_iff.1 e3
            rw [e4, e5]
            exact HX.out
        case measure => simp [intOf]; omega
      · have b1 : Op.bytesLess (str x).toList (str y).toList = false := by rw [less_str, decide_eq_false hxy]
        have HX := Lib.hid hxy
        clear hxy
        go_wp2_with fail
        go_quiet (fail)
        go_wp2
        go_ret
        refine ⟨?_, n + nq, by first | rfl | exact drewN_add _ _ _⟩
        obtain ⟨e1, e2, e3⟩ := HP.out
        subst e1
        obtain ⟨_, e4⟩ := List.getElem?_eq_some_iff.1 e2
        obtain ⟨h5, e5⟩ := List.getElem?_eq_some_iff.1 e3
        rw [valid_no fun h => HX.out (by have := h p h5; rw [e4, e5] at this; exact this)]; rfl
    · go_wp2
      go_ret
      refine ⟨?_, n, rfl⟩
      rw [valid_yes fun j h => HL.out j h (by omega)]; rfl

set_option maxHeartbeats 1600000 in
theorem refValid_any (ts : List Tx) (v : Value) (hn : ts.length ≤ 9223372036854775000) (w : World) (h : TRow w v ts) :
    Calls Try.prog 23 #[v] w fun e w' => e = .returned (.bool (Pl.valid ts)) ∧ ∃ n, w' = w.drewN n := by
  obtain ⟨ao, cp, rfl, hh⟩ := h.open
  have H := Lib.hid hh
  clear h hh
  go_enter Try.func23, Try.ntmps23
  go_wp2
  go_loopw [3] (fun i wr => ∃ k : Nat, 1 ≤ k ∧ (k ≤ ts.length ∨ k = 1) ∧ i = .int .i64 k ∧ Hid (∀ j (h : j + 1 < ts.length), j + 1 < k → ts[j]'(by omega) < ts[j + 1]) ∧ Hid (∃ n, wr = w.drewN n)) (fun i _ => ts.length + 1 - (intOf i).toNat)
  case atStart => exact ⟨1, by omega, .inr rfl, rfl, fun j h h2 => by omega, ⟨0, rfl⟩⟩
  case round =>
    obtain ⟨k, hk1, hk2, rfl, HL, HW⟩ := hrel
    obtain ⟨n, rfl⟩ := HW.out
    clear HW
    by_cases hlt : k < ts.length
    · obtain ⟨p, hp⟩ : ∃ p, k = p + 1 := ⟨k - 1, by omega⟩
      obtain ⟨x, hx⟩ : ∃ x, ts[p]? = some x := ⟨ts[p]'(by omega), List.getElem?_eq_getElem _⟩
      obtain ⟨y, hy⟩ : ∃ y, ts[k]? = some y := ⟨ts[k], List.getElem?_eq_getElem hlt⟩
      rcases H.out with h0 | ⟨g, off, rfl, hg, hc⟩
      · rw [h0] at hlt; exact absurd hlt (Nat.not_lt_zero _)
      have p1 := hc p x hx
      have p2 := hc k y hy
      have hjI : ((k : Nat) : Int) - 1 = (p : Int) := by omega
      have hpw : IntKind.i64.wrap (p : Int) = (p : Int) := by unfold IntKind.wrap; simp [IntKind.signed, IntKind.bits]; omega
      have q0 : (0 : Int) ≤ (p : Int) := by omega
      have q1 : (p : Int) < (ts.length : Int) := by omega
      have q2 : (0 : Int) ≤ (k : Int) := by omega
      have q3 : (k : Int) < (ts.length : Int) := by omega
      have HP := Lib.hid (And.intro hp (And.intro hx hy))
      clear hc hx hy hp
      by_cases hxy : x < y
      · have b1 : Op.bytesLess (str x).toList (str y).toList = true := by rw [less_str, decide_eq_true hxy]
        have HX := Lib.hid hxy
        clear hxy
        go_wp2_with fail
        go_quiet (fail)
        go_wp2
        go_roundw
        case rel =>
          refine ⟨k + 1, by omega, .inl hlt, by go_num, fun j h hj => ?_, ⟨_, by first | rfl | rw [drewN_add]⟩⟩
          obtain ⟨e1, e2, e3⟩ := HP.out
          by_cases ej : j + 1 < k
          · exact HL.out j h ej
          · obtain rfl : j = p := by omega
            subst e1
            obtain ⟨_, e4⟩ := List.getElem?_eq_some_iff.1 e2
            obtain ⟨_, e5⟩ := List.getElem?_eq_some_iff.1 e3
            rw [e4, e5]
            exact HX.out
        case measure => simp [intOf]; omega
      · have b1 : Op.bytesLess (str x).toList (str y).toList = false := by rw [less_str, decide_eq_false hxy]
        have HX := Lib.hid hxy
        clear hxy
        go_wp2_with fail
        go_quiet (fail)
        go_wp2
        go_ret
        refine ⟨?_, n + nq, by first | rfl | exact drewN_add _ _ _⟩
        obtain ⟨e1, e2, e3⟩ := HP.out
        subst e1
        obtain ⟨_, e4⟩ := List.getElem?_eq_some_iff.1 e2
        obtain ⟨h5, e5⟩ := List.getElem?_eq_some_iff.1 e3
        rw [valid_no fun h => HX.out (by have := h p h5; rw [e4, e5] at this; exact this)]; rfl
    · go_wp2
      go_ret
      refine ⟨?_, n, rfl⟩
      rw [valid_yes fun j h => HL.out j h (by omega)]; rfl

theorem contains_mem (ts : List Tx) (x : Tx) : Lib.containsS (strs ts) (str x) = decide (x ∈ ts) := by
  rw [Bool.eq_iff_iff, Lib.containsS_iff, decide_eq_true_iff]
  unfold strs
  rw [List.mem_map]
  refine ⟨fun ⟨a, ha, e⟩ => ?_, fun h => ⟨x, h, rfl⟩⟩
  have : a = x := congrArg (fun b : ByteArray => b.data.toList) e
  exact this ▸ ha
theorem mHas_any (ts : List Tx) (v : Value) (x : Tx) (hn : ts.length ≤ 9223372036854775807) (w : World) (h : TRow w v ts) :
    Calls Try.prog 24 #[v, .string (str x)] w fun e w' => e = .returned (.bool (decide (x ∈ ts))) ∧ w' = w := by
  obtain ⟨ao, cp, rfl, hh⟩ := h.open
  rcases hh with rfl | ⟨g, off, rfl, hg, hc⟩
  · go_enter Try.func24, Try.ntmps24
    go_wp2_with fail
    refine (Try.slices_Contains_string_empty ao cp (str x) _).mono ?_
    rintro e w1 ⟨rfl, rfl⟩
    go_wp2
    go_ret
    exact ⟨by simp, rfl⟩
  · have HC := Lib.hid hc
    clear hc h
    go_enter Try.func24, Try.ntmps24
    go_wp2_with fail
    refine (Try.slices_Contains_string g off ts.length cp (strs ts) (str x) _ (by rw [strs_length]; exact Nat.le_refl _) hn (fun j hj => ?_)).mono ?_
    · rw [strs_length] at hj
      rw [HC.out j ts[j] (List.getElem?_eq_getElem hj)]
      simp [List.getD, strs, List.getElem?_eq_getElem hj]
    rintro e w1 ⟨rfl, rfl⟩
    rw [List.take_of_length_le (by rw [strs_length]; exact Nat.le_refl _), contains_mem]
    go_wp2
    go_ret
    exact ⟨rfl, rfl⟩
end Go.Proofs.Ytjceoigekifgdaa
