/- The walk of FrameScans. -/
import Derived.Test.YtehggdflhjgkeaaFrameScan2
import Derived.Test.YtehggdflhjgkeaaFrame9
namespace Go.Proofs.Ytehggdflhjgkeaa
open Go.ChangeShapes Go.WideShapes Go.ChangeAt Go.RowKit
set_option linter.unusedVariables false

/-- A slice whose cells are those of groups. -/
def GCells (w : World) (v : Value) (gs : List Pl.Grp) : Prop :=
  ∃ ao cp, v = .slice ao gs.length cp ∧ (gs = [] ∨ ∃ g, ao = some ⟨g, 0, none⟩ ∧ g < w.heap.size ∧ ∀ j x, gs[j]? = some x → w.cell? ⟨g, j * 2, none⟩ = some (.int .u64 x.1) ∧ w.cell? ⟨g, j * 2 + 1, none⟩ = some (.string (str x.2)))
theorem cellsG_at : ∀ (gs : List Pl.Grp) (j : Nat) (x : Pl.Grp), gs[j]? = some x → (cellsG gs)[j * 2]? = some (.int .u64 x.1) ∧ (cellsG gs)[j * 2 + 1]? = some (.string (str x.2))
  | [], j, x, h => by simp at h
  | g :: gs, 0, x, h => by simp at h; subst h; exact ⟨rfl, rfl⟩
  | g :: gs, j + 1, x, h => by
    have := cellsG_at gs j x (by simpa using h)
    rw [show (j + 1) * 2 = j * 2 + 1 + 1 by omega]
    exact this
theorem GRow.cells {w : World} {base : Nat} {v : Value} {gs : List Pl.Grp} (h : GRow w base v gs) : GCells w v gs := by
  rcases h.2 with ⟨h1, h2⟩ | ⟨g, cap, cur, h1, _, h4, _⟩
  · exact ⟨none, 0, by rw [h1, h2], .inl (List.length_eq_zero_iff.1 h2)⟩
  · subst h1
    refine ⟨_, cap, rfl, .inr ⟨g, rfl, (Array.getElem?_eq_some_iff.1 h4).1, fun j x hx => ?_⟩⟩
    have hj := (List.getElem?_eq_some_iff.1 hx).1
    have := cellsG_at gs j x hx
    rw [World.ownsRow.cellAt h _ (by omega), World.ownsRow.cellAt h _ (by omega)]
    exact this
theorem GCells.kept {w w' : World} {v : Value} {gs : List Pl.Grp} (h : GCells w v gs) (hb : Below w.heap.size w w') : GCells w' v gs := by
  obtain ⟨ao, cp, rfl, h⟩ := h
  refine ⟨ao, cp, rfl, h.imp id ?_⟩
  rintro ⟨g, rfl, hg, hc⟩
  exact ⟨g, rfl, Nat.lt_of_lt_of_le hg hb.size, fun j x hx => ⟨(hb.cell (by exact hg)).trans (hc j x hx).1, (hb.cell (by exact hg)).trans (hc j x hx).2⟩⟩

set_option maxHeartbeats 1600000 in
theorem same_yes (v1 v2 : Value) (gs : List Pl.Grp) (hm : gs.length ≤ 9223372036854775807) (w : World) (h1 : GCells w v1 gs) (h2 : GCells w v2 gs) :
    Calls Try.prog 21 #[v1, v2] w fun e w' => e = .returned (.bool true) ∧ Below w.heap.size w w' := by
  obtain ⟨a1, c1, rfl, h1⟩ := h1
  obtain ⟨a2, c2, rfl, h2⟩ := h2
  have H1 := Lib.hid h1
  have H2 := Lib.hid h2
  clear h1 h2
  go_enter Try.func21, Try.ntmps21
  go_wp2_with fail
  go_loopw [5] (fun i wr => ∃ k : Nat, k ≤ gs.length ∧ i = .int .i64 k ∧ Below w.heap.size w wr) (fun i _ => gs.length - (intOf i).toNat)
  case atStart => exact ⟨0, Nat.zero_le _, rfl, Below.refl _ _⟩
  case round =>
    obtain ⟨k, hk, rfl, hb⟩ := hrel
    by_cases hlt : k < gs.length
    · obtain ⟨x, hx⟩ : ∃ x, gs[k]? = some x := ⟨gs[k], List.getElem?_eq_getElem hlt⟩
      rcases H1.out with rfl | ⟨g1, rfl, hg1, hc1⟩
      · simp at hlt
      rcases H2.out with rfl | ⟨g2, rfl, hg2, hc2⟩
      · simp at hlt
      have p1 := fun nq => (((below_drewN hb nq).cell (p := ⟨g1, k * 2, none⟩) hg1).trans (hc1 k x hx).1)
      have p2 := fun nq => (((below_drewN hb nq).cell (p := ⟨g1, k * 2 + 1, none⟩) hg1).trans (hc1 k x hx).2)
      have p3 := fun nq => (((below_drewN hb nq).cell (p := ⟨g2, k * 2, none⟩) hg2).trans (hc2 k x hx).1)
      have p4 := fun nq => (((below_drewN hb nq).cell (p := ⟨g2, k * 2 + 1, none⟩) hg2).trans (hc2 k x hx).2)
      clear hc1 hc2 hx
      go_wp2_with fail
      go_quiet (fail)
      have bq : Below w.heap.size w (wr.drewN nq) := below_drewN hb nq
      go_wp2
      go_roundw
      case rel => exact ⟨k + 1, by omega, by go_num, bq⟩
      case measure => simp [intOf]; omega
    · go_wp2
      go_ret
      exact ⟨rfl, hb⟩

theorem frameScans_walk (a0 : ByteArray) (s0 : a0.size ≤ 140737488351232) (w : World) :
    Calls Try.prog 6 #[.string a0] w fun e w' => e = .returned (.bool true) ∧ Below w.heap.size w w' := by
  go_enter Try.func6, Try.ntmps6
  go_wp2_with fail
  refine (scan_any a0 s0 _).mono ?_
  rintro e w1 ⟨v1, rfl, r1, b1⟩
  go_wp2_with fail
  refine (refScan_any a0 s0 _).mono ?_
  rintro e w2 ⟨v2, rfl, r2, b2⟩
  have g1 := (r1.kept b2 (Nat.le_refl _)).cells
  have g2 := r2.cells
  have hlen : (Pl.scan a0.data.toList).gs.length ≤ 9223372036854775807 := by
    have := Pl.scan_many a0.data.toList
    rw [len_toList] at this
    omega
  generalize Pl.scan a0.data.toList = R at g1 g2 hlen r1 r2 ⊢
  obtain ⟨gs, k, y⟩ := R
  have h12 := b1.trans (b2.mono b1.size)
  go_wp2_with fail
  refine (same_yes v1 v2 gs hlen _ g1 g2).mono ?_
  rintro e w3 ⟨rfl, b3⟩
  have h13 := h12.trans (b3.mono h12.size)
  go_wp2_with fail
  refine (awake_any _).mono ?_
  rintro e w4 ⟨rfl, b4⟩
  go_wp2
  go_ret
  exact ⟨rfl, h13.trans (b4.mono h13.size)⟩

end Go.Proofs.Ytehggdflhjgkeaa
