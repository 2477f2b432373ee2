/- Rows of texts that are read: has, same, rising. -/
import Derived.Test.YtjceoigekifgdaaWr
import Derived.Test.YtjceoigekifgdaaLRow
import Derived.Test.YtjceoigekifgdaaPlainSet
import Derived.Sort.Walk0
import Derived.Deep.QuietTactic
import Derived.BigQuiet
namespace Go.Proofs.Ytjceoigekifgdaa
open Go.ChangeShapes Go.WideShapes Go.ChangeAt Go.RowKit
set_option linter.unusedVariables false

abbrev Tx := List UInt8
theorem take_one {α : Type} {l : List α} {k : Nat} {x : α} (h : l[k]? = some x) : l.take (k + 1) = l.take k ++ [x] := by
  obtain ⟨h1, h2⟩ := List.getElem?_eq_some_iff.1 h
  rw [List.take_succ_eq_append_getElem h1, h2]
def strs (ts : List Tx) : List ByteArray := ts.map str
theorem strs_length (ts : List Tx) : (strs ts).length = ts.length := by simp [strs]
theorem strs_get {ts : List Tx} {j : Nat} {t : Tx} (h : ts[j]? = some t) : (strs ts)[j]? = some (str t) := by simp [strs, h]
/-- A slice whose cells hold these texts. -/
def TRow (w : World) (v : Value) (ts : List Tx) : Prop := SRow w v (strs ts)
def texts (bs : List ByteArray) : List Tx := bs.map (·.data.toList)
theorem strs_texts (bs : List ByteArray) : strs (texts bs) = bs := by simp [strs, texts, str_of, Function.comp_def]
theorem texts_length (bs : List ByteArray) : (texts bs).length = bs.length := by simp [texts]
theorem TRow.of {w : World} {v : Value} {bs : List ByteArray} (h : SRow w v bs) : TRow w v (texts bs) := by unfold TRow; rw [strs_texts]; exact h
theorem TRow.kept {w w' : World} {v : Value} {ts : List Tx} (h : TRow w v ts) (hb : Below w.heap.size w w') : TRow w' v ts := SRow.kept h hb
theorem TRow.open {w : World} {v : Value} {ts : List Tx} (h : TRow w v ts) : ∃ ao cp, v = .slice ao ts.length cp ∧ (ts = [] ∨ ∃ g off, ao = some ⟨g, off, none⟩ ∧ g < w.heap.size ∧ ∀ j x, ts[j]? = some x → w.cell? ⟨g, off + j, none⟩ = some (.string (str x))) := by
  obtain ⟨ao, cp, e, h⟩ := h
  rw [strs_length] at e
  refine ⟨ao, cp, e, ?_⟩
  rcases h with h | ⟨g, off, h1, h2, h3⟩
  · left; simpa [strs] using h
  · exact .inr ⟨g, off, h1, h2, fun j x hx => h3 j _ (strs_get hx)⟩
theorem strList (t : Tx) : (str t).toList = t := by rw [ByteArray.toList_eq]; rfl

set_option maxHeartbeats 1600000 in
theorem has_any (ts : List Tx) (v : Value) (m : ByteArray) (hn : ts.length ≤ 9223372036854775807) (w : World) (h : TRow w v ts) :
    Calls Try.prog 25 #[v, .string m] w fun e w' => e = .returned (.bool (decide (m.data.toList ∈ ts))) ∧ w = w' := by
  obtain ⟨ao, cp, rfl, hh⟩ := h.open
  have H := Lib.hid hh
  clear h hh
  go_enter Try.func25, Try.ntmps25
  go_wp2
  go_loop [5] (fun i => ∃ k : Nat, k ≤ ts.length ∧ i = .int .i64 k ∧ Hid (m.data.toList ∉ ts.take k)) (fun i => ts.length - (intOf i).toNat)
  case atStart => exact ⟨0, Nat.zero_le _, rfl, by show _ ∉ _; simp⟩
  case round =>
    obtain ⟨k, hk, rfl, hno⟩ := hrel
    by_cases hlt : k < ts.length
    · obtain ⟨x, hx⟩ : ∃ x, ts[k]? = some x := ⟨ts[k], List.getElem?_eq_getElem hlt⟩
      rcases H.out with h0 | ⟨g, off, rfl, hg, hc⟩
      · rw [h0] at hlt; exact absurd hlt (Nat.not_lt_zero _)
      have hc1 := hc k x hx
      have HX := Lib.hid hx
      clear hc hx
      by_cases he : x = m.data.toList
      · have hb : ((str x).toList == m.toList) = true := by rw [strList, ByteArray.toList_eq, he]; simp
        have HE := Lib.hid he
        clear he
        go_wp2
        go_ret
        refine ⟨?_, rfl⟩
        rw [decide_eq_true (show m.data.toList ∈ ts by rw [← HE.out]; exact List.mem_of_getElem? HX.out)]; rfl
      · have hb : ((str x).toList == m.toList) = false := by rw [strList, ByteArray.toList_eq]; simpa using he
        have HE := Lib.hid he
        clear he
        go_wp2
        go_round
        case rel =>
          refine ⟨k + 1, by omega, by go_num, ?_⟩
          show _ ∉ _
          rw [take_one HX.out, List.mem_append, List.mem_singleton]
          exact fun h => h.elim hno.out (fun e => HE.out e.symm)
        case measure => simp [intOf]; omega
    · obtain rfl : ts.length = k := by omega
      rw [List.take_length] at hno
      go_wp2
      go_ret
      refine ⟨?_, rfl⟩
      rw [decide_eq_false hno.out]; rfl

theorem drewN_add (w : World) (a b : Nat) : (w.drewN a).drewN b = w.drewN (a + b) := by
  simp [World.drewN, Nat.add_assoc]
set_option maxHeartbeats 1600000 in
theorem same_any (a b : List Tx) (v1 v2 : Value) (hn : a.length ≤ 9223372036854775807) (w : World) (h1 : TRow w v1 a) (h2 : TRow w v2 b) :
    Calls Try.prog 15 #[v1, v2] w fun e w' => e = .returned (.bool (decide (a = b))) ∧ ∃ n, w' = w.drewN n := by
  obtain ⟨a1, c1, rfl, hh1⟩ := h1.open
  obtain ⟨a2, c2, rfl, hh2⟩ := h2.open
  have H1 := Lib.hid hh1
  have H2 := Lib.hid hh2
  clear h1 h2 hh1 hh2
  by_cases hl : a.length = b.length
  · have hlI : (!((a.length : Int) == (b.length : Int))) = false := by rw [hl]; simp
    have hlI2 : ((a.length : Int) != (b.length : Int)) = false := hlI
    have HL := Lib.hid hl
    clear hl
    go_enter Try.func15, Try.ntmps15
    go_wp2
    go_loopw [5] (fun i wr => ∃ k : Nat, k ≤ a.length ∧ i = .int .i64 k ∧ Hid (a.take k = b.take k) ∧ Hid (∃ n, wr = w.drewN n)) (fun i _ => a.length - (intOf i).toNat)
    case atStart => exact ⟨0, Nat.zero_le _, rfl, by show _ = _; simp, ⟨0, rfl⟩⟩
    case round =>
      obtain ⟨k, hk, rfl, hE, hW⟩ := hrel
      obtain ⟨n, rfl⟩ := hW.out
      clear hW
      by_cases hlt : k < a.length
      · obtain ⟨x, hx⟩ : ∃ x, a[k]? = some x := ⟨a[k], List.getElem?_eq_getElem hlt⟩
        obtain ⟨y, hy⟩ : ∃ y, b[k]? = some y := ⟨b[k]'(by have := HL.out; omega), List.getElem?_eq_getElem _⟩
        have hlt2 : k < b.length := by have := HL.out; omega
        rcases H1.out with h0 | ⟨g1, o1, rfl, hg1, hc1⟩
        · rw [h0] at hlt; exact absurd hlt (Nat.not_lt_zero _)
        rcases H2.out with h0 | ⟨g2, o2, rfl, hg2, hc2⟩
        · rw [h0] at hlt2; exact absurd hlt2 (Nat.not_lt_zero _)
        have p1 := hc1 k x hx
        have p2 := hc2 k y hy
        have HX := Lib.hid (And.intro hx hy)
        have hk1 : ((k : Nat) : Int) < (a.length : Int) := by omega
        have hk2 : ((k : Nat) : Int) < (b.length : Int) := by omega
        have hk0 : (0 : Int) ≤ (k : Int) := by omega
        clear hc1 hc2 hx hy
        by_cases he : x = y
        · have hb : ((str x).toList == (str y).toList) = true := by rw [strList, strList, he]; simp
          have HE := Lib.hid he
          clear he
          go_wp2_with fail
          go_quiet (fail)
          go_wp2
          go_roundw
          case rel => exact ⟨k + 1, by omega, by go_num, by show _ = _; rw [take_one HX.out.1, take_one HX.out.2, hE.out, HE.out], ⟨_, rfl⟩⟩
          case measure => simp [intOf]; omega
        · have hb : ((str x).toList == (str y).toList) = false := by rw [strList, strList]; simpa using he
          have HE := Lib.hid he
          clear he
          go_wp2_with fail
          go_quiet (fail)
          go_wp2
          go_ret
          refine ⟨?_, n + nq, by first | rfl | exact drewN_add _ _ _⟩
          have hne : ¬ a = b := fun e => by
            have := HX.out
            rw [e] at this
            exact HE.out (Option.some.inj (this.1.symm.trans this.2))
          rw [decide_eq_false hne]; rfl
      · obtain rfl : a.length = k := by omega
        go_wp2
        go_ret
        refine ⟨?_, n, rfl⟩
        have he : a = b := by have := hE.out; rw [List.take_length, HL.out, List.take_length] at this; exact this
        rw [decide_eq_true he]; rfl
  · have hlI : ((a.length : Int) == (b.length : Int)) = false := by rw [beq_eq_false_iff_ne]; omega
    have HL := Lib.hid hl
    clear hl
    go_enter Try.func15, Try.ntmps15
    go_wp2
    go_ret
    refine ⟨?_, 0, rfl⟩
    rw [decide_eq_false (fun e => HL.out (by rw [e]))]; rfl
end Go.Proofs.Ytjceoigekifgdaa
