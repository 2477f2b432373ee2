/- The walk of FrameEncodes. The walk of FrameScans. -/
import Derived.Test.YtfbjmhipjfjaeaaGreatDoorM14
import Derived.Test.YtfbjmhipjfjaeaaGreatDoorM15
namespace Go.Proofs.YtfbjmhipjfjaeaaGreatDoor
open Go.ChangeShapes Go.WideShapes Go.ChangeAt Go.RowKit
set_option linter.unusedVariables false

/-- What both writers tell. -/
def encS (n : Nat) (b : ByteArray) : ByteArray := if n = 0 ∨ 1073741824 < b.size then str [] else str (Pl.encL n b.data.toList)
def encE (n : Nat) (b : ByteArray) : Int := if n = 0 ∨ 1073741824 < b.size then 250 else 0
theorem enc_any (n : Nat) (b : ByteArray) (w : World) (hn : n ≤ 18446744073709551615) (hb : b.size ≤ maxLen) :
    Calls Tryz.prog 47 #[.agg #[.int .u64 n, .string b]] w fun e w' => e = .returned (.tuple #[.string (encS n b), .int .i64 (encE n b)]) ∧ Below w.heap.size w w' := by
  unfold encS encE
  by_cases h : n = 0 ∨ 1073741824 < b.size
  · rw [if_pos h, if_pos h]
    refine enc_bad n b hb w ?_
    by_cases h0 : n = 0
    · exact .inl (by rw [h0]; rfl)
    · exact .inr ⟨by rw [beq_eq_false_iff_ne]; omega, by rcases h with h | h; exact absurd h h0; exact h⟩
  · rw [if_neg h, if_neg h]
    exact enc_ok n b hn (by rw [beq_eq_false_iff_ne]; omega) (by omega) w
theorem refEnc_any (n : Nat) (b : ByteArray) (w : World) (hn : n ≤ 18446744073709551615) (hb : b.size ≤ maxLen) :
    Calls Tryz.prog 19 #[.agg #[.int .u64 n, .string b]] w fun e w' => e = .returned (.tuple #[.string (encS n b), .int .i64 (encE n b)]) ∧ Below w.heap.size w w' := by
  unfold encS encE
  by_cases h : n = 0 ∨ 1073741824 < b.size
  · rw [if_pos h, if_pos h]
    refine refEnc_bad n b hb w ?_
    by_cases h0 : n = 0
    · exact .inl (by rw [h0]; rfl)
    · exact .inr ⟨by rw [beq_eq_false_iff_ne]; omega, by rcases h with h | h; exact absurd h h0; exact h⟩
  · rw [if_neg h, if_neg h]
    exact refEnc_ok n b hn (by rw [beq_eq_false_iff_ne]; omega) (by omega) w

end Go.Proofs.YtfbjmhipjfjaeaaGreatDoor

namespace Go.Proofs.YtfbjmhipjfjaeaaGreatDoor
open Go.ChangeShapes Go.WideShapes Go.ChangeAt Go.RowKit
set_option linter.unusedVariables false

/-- A slice whose cells are those of groups. -/
def GCells (w : World) (v : Value) (gs : List Pl.Grp) : Prop :=
  ∃ ao cp, v = .slice ao gs.length cp ∧ (gs = [] ∨ ∃ g, ao = some ⟨g, 0, none⟩ ∧ g < w.heap.size ∧ ∀ j x, gs[j]? = some x → w.cell? ⟨g, j * 2, none⟩ = some (.int .u64 x.1) ∧ w.cell? ⟨g, j * 2 + 1, none⟩ = some (.string (str x.2)))
theorem cellsG_at : ∀ (gs : List Pl.Grp) (j : Nat) (x : Pl.Grp), gs[j]? = some x → (cellsG gs)[j * 2]? = some (.int .u64 x.1) ∧ (cellsG gs)[j * 2 + 1]? = some (.string (str x.2))
  | [], j, x, h => by simp at h
  | g :: gs, 0, x, h => by simp at h; subst h; exact ⟨rfl, rfl⟩
  | g :: gs, j + 1, x, h => by
    have := cellsG_at gs j x (by simpa using h)
    rw [show (j + 1) * 2 = j * 2 + 1 + 1 by omega]
    exact this
theorem GRow.cells {w : World} {base : Nat} {v : Value} {gs : List Pl.Grp} (h : GRow w base v gs) : GCells w v gs := by
  rcases h.2 with ⟨h1, h2⟩ | ⟨g, cap, cur, h1, _, h4, _⟩
  · exact ⟨none, 0, by rw [h1, h2], .inl (List.length_eq_zero_iff.1 h2)⟩
  · subst h1
    refine ⟨_, cap, rfl, .inr ⟨g, rfl, (Array.getElem?_eq_some_iff.1 h4).1, fun j x hx => ?_⟩⟩
    have hj := (List.getElem?_eq_some_iff.1 hx).1
    have := cellsG_at gs j x hx
    rw [World.ownsRow.cellAt h _ (by omega), World.ownsRow.cellAt h _ (by omega)]
    exact this
theorem GCells.kept {w w' : World} {v : Value} {gs : List Pl.Grp} (h : GCells w v gs) (hb : Below w.heap.size w w') : GCells w' v gs := by
  obtain ⟨ao, cp, rfl, h⟩ := h
  refine ⟨ao, cp, rfl, h.imp id ?_⟩
  rintro ⟨g, rfl, hg, hc⟩
  exact ⟨g, rfl, Nat.lt_of_lt_of_le hg hb.size, fun j x hx => ⟨(hb.cell (by exact hg)).trans (hc j x hx).1, (hb.cell (by exact hg)).trans (hc j x hx).2⟩⟩

end Go.Proofs.YtfbjmhipjfjaeaaGreatDoor
