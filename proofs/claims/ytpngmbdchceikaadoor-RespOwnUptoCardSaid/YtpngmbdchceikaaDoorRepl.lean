/- Replies in memory. -/
import Derived.Test.YtpngmbdchceikaaDoorBase
import Derived.Test.YtpngmbdchceikaaDoorPlainResp2
import Derived.Test.YtpngmbdchceikaaDoorIdx
namespace Go.Proofs.YtpngmbdchceikaaDoor
open Go.ChangeShapes Go.WideShapes Go.ChangeAt Go.RowKit
open Pl (R)
set_option linter.unusedVariables false

/-- The ints of a reply are ints; its text and its list are not too long. -/
def OkR (r : R) : Prop := -9223372036854775808 ≤ r.n ∧ r.n ≤ 9223372036854775807 ∧ r.t.length ≤ 1073741824 ∧ r.l.length ≤ 1073741824
/-- A slice whose cells hold these replies, their lists in blocks of F. -/
inductive LIs (F : Nat → Prop) (w : World) : Value → List R → Prop
  | nil (ao : Option Addr) (cp : Nat) : LIs F w (.slice ao 0 cp) []
  | row (g off cp : Nat) (l : List R) (lv : Nat → Value) (hF : F g) (hg : g < w.heap.size)
      (hc : ∀ j r, l[j]? = some r → OkR r ∧ w.cell? ⟨g, off + j * 4, none⟩ = some (.int .i64 r.k) ∧ w.cell? ⟨g, off + j * 4 + 1, none⟩ = some (.string (str r.t)) ∧ w.cell? ⟨g, off + j * 4 + 2, none⟩ = some (.int .i64 r.n) ∧ w.cell? ⟨g, off + j * 4 + 3, none⟩ = some (lv j))
      (hl : ∀ j r, l[j]? = some r → LIs F w (lv j) r.l) : LIs F w (.slice (some ⟨g, off, none⟩) l.length cp) l
theorem LIs.kept {F : Nat → Prop} {w w' : World} {v : Value} {l : List R} (h : LIs F w v l) (hz : w.heap.size ≤ w'.heap.size) (hk : ∀ b, F b → b < w.heap.size → w'.heap[b]? = w.heap[b]?) : LIs F w' v l := by
  induction h with
  | nil ao cp => exact .nil ao cp
  | row g off cp l lv hF hg hc hl ih =>
    have e := hk g hF hg
    have ec : ∀ o, w'.cell? ⟨g, o, none⟩ = w.cell? ⟨g, o, none⟩ := fun o => World.cell?_of_block (by exact e)
    refine .row g off cp l lv hF (Nat.lt_of_lt_of_le hg hz) (fun j r hr => ?_) ih
    obtain ⟨h0, h1, h2, h3, h4⟩ := hc j r hr
    exact ⟨h0, by rw [ec]; exact h1, by rw [ec]; exact h2, by rw [ec]; exact h3, by rw [ec]; exact h4⟩
theorem LIs.later {F : Nat → Prop} {w w' : World} {v : Value} {l : List R} (h : LIs F w v l) (hb : Below w.heap.size w w') : LIs F w' v l := h.kept hb.size fun b _ hb' => hb.block b hb'
theorem LIs.mono {F F' : Nat → Prop} {w : World} {v : Value} {l : List R} (h : LIs F w v l) (hF : ∀ b, F b → F' b) : LIs F' w v l := by
  induction h with
  | nil ao cp => exact .nil ao cp
  | row g off cp l lv h1 hg hc hl ih => exact .row g off cp l lv (hF g h1) hg hc ih
theorem LIs.shape {F : Nat → Prop} {w : World} {v : Value} {l : List R} (h : LIs F w v l) : ∃ ao cp, v = .slice ao l.length cp := by
  cases h with
  | nil ao cp => exact ⟨ao, cp, rfl⟩
  | row g off cp l lv hF hg hc hl => exact ⟨_, cp, rfl⟩
/-- An element of a row. -/
theorem LIs.at {F : Nat → Prop} {w : World} {ao : Option Addr} {n cp : Nat} {l : List R} (h : LIs F w (.slice ao n cp) l) {j : Nat} (hj : j < l.length) :
    ∃ g off r lv, ao = some ⟨g, off, none⟩ ∧ g < w.heap.size ∧ l[j]? = some r ∧ OkR r ∧ w.cell? ⟨g, off + j * 4, none⟩ = some (.int .i64 r.k) ∧ w.cell? ⟨g, off + j * 4 + 1, none⟩ = some (.string (str r.t)) ∧ w.cell? ⟨g, off + j * 4 + 2, none⟩ = some (.int .i64 r.n) ∧ w.cell? ⟨g, off + j * 4 + 3, none⟩ = some lv ∧ LIs F w lv r.l := by
  cases h with
  | nil => exact absurd hj (Nat.not_lt_zero _)
  | row g off cp l lv hF hg hc hl =>
    have hr := List.getElem?_eq_getElem hj
    obtain ⟨h0, h1, h2, h3, h4⟩ := hc j _ hr
    exact ⟨g, off, l[j], lv j, rfl, hg, hr, h0, h1, h2, h3, h4, hl j _ hr⟩
/-- A reply as a value. -/
abbrev rv (r : R) (lv : Value) : Value := .agg #[.int .i64 r.k, .string (str r.t), .int .i64 r.n, lv]

/-- A box of four cells, in every later world. -/
theorem box4_cells {w W : World} {a b c d : Value} {T : TypeId} (h : Below (w.alloc (.cells #[a, b, c, d] T)).heap.size (w.alloc (.cells #[a, b, c, d] T)) W) :
    W.cell? ⟨w.heap.size, 0, none⟩ = some a ∧ W.cell? ⟨w.heap.size, 1, none⟩ = some b ∧ W.cell? ⟨w.heap.size, 2, none⟩ = some c ∧ W.cell? ⟨w.heap.size, 3, none⟩ = some d := by
  have hlt : w.heap.size < (w.alloc (.cells #[a, b, c, d] T)).heap.size := by simp
  exact ⟨(h.cell (p := ⟨w.heap.size, 0, none⟩) hlt).trans (World.cell?_alloc_mark _ _ _ _ _), (h.cell (p := ⟨w.heap.size, 1, none⟩) hlt).trans (World.cell?_alloc_mark _ _ _ _ _), (h.cell (p := ⟨w.heap.size, 2, none⟩) hlt).trans (World.cell?_alloc_mark _ _ _ _ _), (h.cell (p := ⟨w.heap.size, 3, none⟩) hlt).trans (World.cell?_alloc_mark _ _ _ _ _)⟩
theorem box4_below {w W : World} {a b c d : Value} {T : TypeId} (h : Below (w.alloc (.cells #[a, b, c, d] T)).heap.size (w.alloc (.cells #[a, b, c, d] T)) W) : Below w.heap.size w W :=
  ((Below.refl _ _).alloc (Nat.le_refl _) _).trans (h.mono (by simp))
/-! plain -/
theorem indexAny_noEnd (l : List UInt8) : decide (0 ≤ Lib.indexAny l [13, 10]) = !Pl.noEnd l := by
  induction l with
  | nil => rfl
  | cons c l ih =>
    rw [Lib.indexAny]
    have hge := Lib.indexAny_ge [13, 10] l
    simp only [Pl.noEnd, List.all_cons] at ih ⊢
    by_cases h1 : c = 13
    · subst h1; rfl
    by_cases h2 : c = 10
    · subst h2; rfl
    have hc : ([13, 10] : List UInt8).contains c = false := by simp [h1, h2]
    have hd : (c != 13 && c != 10) = true := by simp [h1, h2]
    rw [if_neg (by rw [hc]; simp), hd, Bool.true_and, ← ih]
    by_cases h3 : Lib.indexAny l [13, 10] = -1
    · rw [h3]; rfl
    · rw [if_neg (by simpa using h3)]
      have e1 : decide (0 ≤ Lib.indexAny l [13, 10] + 1) = true := decide_eq_true (by omega)
      have e2 : decide (0 ≤ Lib.indexAny l [13, 10]) = true := decide_eq_true (by omega)
      rw [e1, e2]
theorem plain_any (t : List UInt8) (ht : t.length ≤ 1073741824) (w : World) : Calls Tryd.prog 43 #[.string (str t)] w fun e w' => e = .returned (.bool (Pl.noEnd t)) ∧ Below w.heap.size w w' := by
  have hc := fun W => containsAny_any (str t) (by rw [str_size]; exact ht) W
  rw [str_toList, indexAny_noEnd] at hc
  generalize Pl.noEnd t = b at *
  have HC := Lib.hid hc
  clear hc
  go_enter Tryd.func43, Tryd.ntmps43
  go_wp2_with fail
  ((with_reducible refine (HC.out _).mono ?_); rintro e w4 ⟨rfl, b4⟩)
  go_wp2
  go_ret
  exact ⟨by simp, b4⟩
end Go.Proofs.YtpngmbdchceikaaDoor
