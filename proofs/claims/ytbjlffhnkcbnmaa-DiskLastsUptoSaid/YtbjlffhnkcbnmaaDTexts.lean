/- texts; a disk that is none. -/
import Derived.Test.YtbjlffhnkcbnmaaDsk14
import Derived.Test.YtbjlffhnkcbnmaaStrs
import Derived.Sort.Walk0
import Derived.Deep.QuietTactic
import Derived.BigQuiet
namespace Go.Proofs.Ytbjlffhnkcbnmaa
open Go.ChangeShapes Go.WideShapes Go.ChangeAt Go.RowKit Pl
set_option linter.unusedVariables false

theorem take_one {α : Type} {l : List α} {k : Nat} {x : α} (h : l[k]? = some x) : l.take (k + 1) = l.take k ++ [x] := by rw [List.take_add_one, h]; rfl
theorem textsB_get {ts : List (List UInt8)} {j : Nat} {t : List UInt8} (h : ts[j]? = some t) : (textsB ts)[j]? = some (str t) := by simp [textsB, h]
/-- A slice whose cells hold these texts. -/
def TRow (w : World) (v : Value) (ts : List Tx) : Prop := SRow w v (textsB ts)
theorem TRow.open {w : World} {v : Value} {ts : List Tx} (h : TRow w v ts) : ∃ ao cp, v = .slice ao ts.length cp ∧ (ts = [] ∨ ∃ g off, ao = some ⟨g, off, none⟩ ∧ g < w.heap.size ∧ ∀ j x, ts[j]? = some x → w.cell? ⟨g, off + j, none⟩ = some (.string (str x))) := by
  obtain ⟨ao, cp, e, h⟩ := h
  rw [textsB_length] at e
  refine ⟨ao, cp, e, ?_⟩
  rcases h with h | ⟨g, off, h1, h2, h3⟩
  · left; simpa [textsB] using h
  · exact .inr ⟨g, off, h1, h2, fun j x hx => h3 j _ (textsB_get hx)⟩
theorem drewN_add (w : World) (a b : Nat) : (w.drewN a).drewN b = w.drewN (a + b) := by
  simp [World.drewN, Nat.add_assoc]
set_option maxHeartbeats 1600000 in
theorem texts_any (a b : List Tx) (v1 v2 : Value) (hn : a.length ≤ 9223372036854775807) (w : World) (h1 : TRow w v1 a) (h2 : TRow w v2 b) :
    Calls Try.prog 18 #[v1, v2] w fun e w' => e = .returned (.bool (decide (a = b))) ∧ ∃ n, w' = w.drewN n := by
  obtain ⟨a1, c1, rfl, hh1⟩ := h1.open
  obtain ⟨a2, c2, rfl, hh2⟩ := h2.open
  have H1 := Lib.hid hh1
  have H2 := Lib.hid hh2
  clear h1 h2 hh1 hh2
  by_cases hl : a.length = b.length
  · have hlI : (!((a.length : Int) == (b.length : Int))) = false := by rw [hl]; simp
    have hlI2 : ((a.length : Int) != (b.length : Int)) = false := hlI
    have HL := Lib.hid hl
    clear hl
    go_enter Try.func18, Try.ntmps18
    go_wp2
    go_loopw [5] (fun i wr => ∃ k : Nat, k ≤ a.length ∧ i = .int .i64 k ∧ Hid (a.take k = b.take k) ∧ Hid (∃ n, wr = w.drewN n)) (fun i _ => a.length - (intOf i).toNat)
    case atStart => exact ⟨0, Nat.zero_le _, rfl, by show _ = _; simp, ⟨0, rfl⟩⟩
    case round =>
      obtain ⟨k, hk, rfl, hE, hW⟩ := hrel
      obtain ⟨n, rfl⟩ := hW.out
      clear hW
      by_cases hlt : k < a.length
      · obtain ⟨x, hx⟩ : ∃ x, a[k]? = some x := ⟨a[k], List.getElem?_eq_getElem hlt⟩
        obtain ⟨y, hy⟩ : ∃ y, b[k]? = some y := ⟨b[k]'(by have := HL.out; omega), List.getElem?_eq_getElem _⟩
        have hlt2 : k < b.length := by have := HL.out; omega
        rcases H1.out with h0 | ⟨g1, o1, rfl, hg1, hc1⟩
        · rw [h0] at hlt; exact absurd hlt (Nat.not_lt_zero _)
        rcases H2.out with h0 | ⟨g2, o2, rfl, hg2, hc2⟩
        · rw [h0] at hlt2; exact absurd hlt2 (Nat.not_lt_zero _)
        have p1 := hc1 k x hx
        have p2 := hc2 k y hy
        have HX := Lib.hid (And.intro hx hy)
        have hk1 : ((k : Nat) : Int) < (a.length : Int) := by omega
        have hk2 : ((k : Nat) : Int) < (b.length : Int) := by omega
        have hk0 : (0 : Int) ≤ (k : Int) := by omega
        clear hc1 hc2 hx hy
        by_cases he : x = y
        · have hb : ((str x).toList == (str y).toList) = true := by rw [strList, strList, he]; simp
          have HE := Lib.hid he
          clear he
          go_wp2_with fail
          go_quiet (fail)
          go_wp2
          go_roundw
          case rel => exact ⟨k + 1, by omega, by go_num, by show _ = _; rw [take_one HX.out.1, take_one HX.out.2, hE.out, HE.out], ⟨_, rfl⟩⟩
          case measure => simp [intOf]; omega
        · have hb : ((str x).toList == (str y).toList) = false := by rw [strList, strList]; simpa using he
          have HE := Lib.hid he
          clear he
          go_wp2_with fail
          go_quiet (fail)
          go_wp2
          go_ret
          refine ⟨?_, n + nq, by first | rfl | exact drewN_add _ _ _⟩
          have hne : ¬ a = b := fun e => by
            have := HX.out
            rw [e] at this
            exact HE.out (Option.some.inj (this.1.symm.trans this.2))
          rw [decide_eq_false hne]; rfl
      · obtain rfl : a.length = k := by omega
        go_wp2
        go_ret
        refine ⟨?_, n, rfl⟩
        have he : a = b := by have := hE.out; rw [List.take_length, HL.out, List.take_length] at this; exact this
        rw [decide_eq_true he]; rfl
  · have hlI : ((a.length : Int) == (b.length : Int)) = false := by rw [beq_eq_false_iff_ne]; omega
    have HL := Lib.hid hl
    clear hl
    go_enter Try.func18, Try.ntmps18
    go_wp2
    go_ret
    refine ⟨?_, 0, rfl⟩
    rw [decide_eq_false (fun e => HL.out (by rw [e]))]; rfl

theorem none_find (n : ByteArray) (w : World) : Calls Try.prog 36 #[.pointer none, .string n] w fun e w' => e = .returned (.tuple #[.pointer none, .int .i64 53]) ∧ w = w' := by
  go_enter Try.func36, Try.ntmps36
  go_wp2
  go_ret2
  exact ⟨rfl, rfl⟩
theorem none_create (n : ByteArray) (w : World) : Calls Try.prog 26 #[.pointer none, .string n] w fun e w' => e = .returned (.int .i64 53) ∧ w = w' := by
  have HF := Lib.hid (none_find n w)
  go_enter Try.func26, Try.ntmps26
  go_wp2_with fail
  ((with_reducible refine HF.out.mono ?_); rintro e w1 ⟨rfl, rfl⟩)
  go_wp2
  go_ret
  exact ⟨rfl, rfl⟩
theorem none_append (n s : ByteArray) (w : World) : Calls Try.prog 16 #[.pointer none, .string n, .string s] w fun e w' => e = .returned (.tuple #[.int .i64 0, .int .i64 53]) ∧ w = w' := by
  have HF := Lib.hid (none_find n w)
  go_enter Try.func16, Try.ntmps16
  go_wp2_with fail
  ((with_reducible refine HF.out.mono ?_); rintro e w1 ⟨rfl, rfl⟩)
  go_wp2
  go_ret2
  exact ⟨rfl, rfl⟩
theorem none_trunc (n : ByteArray) (k : Int) (w : World) : Calls Try.prog 29 #[.pointer none, .string n, .int .i64 k] w fun e w' => e = .returned (.int .i64 53) ∧ w = w' := by
  have HF := Lib.hid (none_find n w)
  go_enter Try.func29, Try.ntmps29
  go_wp2_with fail
  ((with_reducible refine HF.out.mono ?_); rintro e w1 ⟨rfl, rfl⟩)
  go_wp2
  go_ret
  exact ⟨rfl, rfl⟩
theorem none_sync (n : ByteArray) (w : World) : Calls Try.prog 17 #[.pointer none, .string n] w fun e w' => e = .returned (.int .i64 53) ∧ w = w' := by
  have HF := Lib.hid (none_find n w)
  go_enter Try.func17, Try.ntmps17
  go_wp2_with fail
  ((with_reducible refine HF.out.mono ?_); rintro e w1 ⟨rfl, rfl⟩)
  go_wp2
  go_ret
  exact ⟨rfl, rfl⟩
theorem none_rename (n s : ByteArray) (w : World) : Calls Try.prog 30 #[.pointer none, .string n, .string s] w fun e w' => e = .returned (.int .i64 53) ∧ w = w' := by
  have HF := Lib.hid (none_find n w)
  go_enter Try.func30, Try.ntmps30
  go_wp2_with fail
  ((with_reducible refine HF.out.mono ?_); rintro e w1 ⟨rfl, rfl⟩)
  go_wp2
  go_ret
  exact ⟨rfl, rfl⟩
theorem none_remove (n : ByteArray) (w : World) : Calls Try.prog 31 #[.pointer none, .string n] w fun e w' => e = .returned (.int .i64 53) ∧ w = w' := by
  have HF := Lib.hid (none_find n w)
  go_enter Try.func31, Try.ntmps31
  go_wp2_with fail
  ((with_reducible refine HF.out.mono ?_); rintro e w1 ⟨rfl, rfl⟩)
  go_wp2
  go_ret
  exact ⟨rfl, rfl⟩
theorem none_read (n : ByteArray) (w : World) : Calls Try.prog 14 #[.pointer none, .string n] w fun e w' => e = .returned (.tuple #[.string ⟨#[]⟩, .int .i64 53]) ∧ w = w' := by
  have HF := Lib.hid (none_find n w)
  go_enter Try.func14, Try.ntmps14
  go_wp2_with fail
  ((with_reducible refine HF.out.mono ?_); rintro e w1 ⟨rfl, rfl⟩)
  go_wp2
  go_ret2
  exact ⟨rfl, rfl⟩
theorem none_synced (n : ByteArray) (w : World) : Calls Try.prog 15 #[.pointer none, .string n] w fun e w' => e = .returned (.tuple #[.int .i64 0, .int .i64 53]) ∧ w = w' := by
  have HF := Lib.hid (none_find n w)
  go_enter Try.func15, Try.ntmps15
  go_wp2_with fail
  ((with_reducible refine HF.out.mono ?_); rintro e w1 ⟨rfl, rfl⟩)
  go_wp2
  go_ret2
  exact ⟨rfl, rfl⟩
theorem none_syncNames (w : World) : Calls Try.prog 27 #[.pointer none] w fun e w' => e = .returned (.int .i64 53) ∧ w = w' := by
  go_enter Try.func27, Try.ntmps27
  go_wp2
  go_ret
  exact ⟨rfl, rfl⟩
theorem none_plan (v : Value) (w : World) : Calls Try.prog 22 #[.pointer none, v] w fun e w' => e = .returned (.int .i64 53) ∧ w = w' := by
  go_enter Try.func22, Try.ntmps22
  go_wp2
  go_ret
  exact ⟨rfl, rfl⟩
theorem none_down (w : World) : Calls Try.prog 24 #[.pointer none] w fun e w' => e = .returned (.bool false) ∧ w = w' := by
  go_enter Try.func24, Try.ntmps24
  go_wp2
  go_ret
  exact ⟨rfl, rfl⟩
theorem none_steps (w : World) : Calls Try.prog 25 #[.pointer none] w fun e w' => e = .returned (.int .i64 0) ∧ w = w' := by
  go_enter Try.func25, Try.ntmps25
  go_wp2
  go_ret
  exact ⟨rfl, rfl⟩
theorem none_names (w : World) : Calls Try.prog 13 #[.pointer none] w fun e w' => e = .returned (.slice none 0 0) ∧ w = w' := by
  go_enter Try.func13, Try.ntmps13
  go_wp2
  go_ret
  exact ⟨rfl, rfl⟩
theorem none_lasting (w : World) : Calls Try.prog 19 #[.pointer none] w fun e w' => e = .returned (.slice none 0 0) ∧ w = w' := by
  go_enter Try.func19, Try.ntmps19
  go_wp2
  go_ret
  exact ⟨rfl, rfl⟩
theorem none_crash (k : Int) (v : Value) (w : World) : Calls Try.prog 12 #[.pointer none, .agg #[.int .i64 k, v]] w fun e w' => e = .returned (.tuple #[]) ∧ Below w.heap.size w w' := by
  go_enter Try.func12, Try.ntmps12
  go_wp2
  refine bodyPost_ret (results_none rfl _ _ _) rfl ?_
  exact ⟨rfl, (Below.refl _ _).alloc (Nat.le_refl _) _⟩
end Go.Proofs.Ytbjlffhnkcbnmaa
