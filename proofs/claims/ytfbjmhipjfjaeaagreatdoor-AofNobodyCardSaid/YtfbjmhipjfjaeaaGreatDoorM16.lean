/- The walk of FrameEncodes. The walk of FrameScans. Plain laws on rows of groups: what the scan tells of groups in their order, and of what stands behind them. No program is in sight. -/
import Derived.Test.YtfbjmhipjfjaeaaGreatDoorM14
import Derived.Test.YtfbjmhipjfjaeaaGreatDoorM15
namespace Go.Proofs.YtfbjmhipjfjaeaaGreatDoor
open Go.ChangeShapes Go.WideShapes Go.ChangeAt Go.RowKit
set_option linter.unusedVariables false

/-- What both writers tell. -/
def encS (n : Nat) (b : ByteArray) : ByteArray := if n = 0 ∨ 1073741824 < b.size then str [] else str (Pl.encL n b.data.toList)
def encE (n : Nat) (b : ByteArray) : Int := if n = 0 ∨ 1073741824 < b.size then 250 else 0
theorem enc_any (n : Nat) (b : ByteArray) (w : World) (hn : n ≤ 18446744073709551615) (hb : b.size ≤ maxLen) :
    Calls Tryz.prog 47 #[.agg #[.int .u64 n, .string b]] w fun e w' => e = .returned (.tuple #[.string (encS n b), .int .i64 (encE n b)]) ∧ Below w.heap.size w w' := by
  unfold encS encE
  by_cases h : n = 0 ∨ 1073741824 < b.size
  · rw [if_pos h, if_pos h]
    refine enc_bad n b hb w ?_
    by_cases h0 : n = 0
    · exact .inl (by rw [h0]; rfl)
    · exact .inr ⟨by rw [beq_eq_false_iff_ne]; omega, by rcases h with h | h; exact absurd h h0; exact h⟩
  · rw [if_neg h, if_neg h]
    exact enc_ok n b hn (by rw [beq_eq_false_iff_ne]; omega) (by omega) w
theorem refEnc_any (n : Nat) (b : ByteArray) (w : World) (hn : n ≤ 18446744073709551615) (hb : b.size ≤ maxLen) :
    Calls Tryz.prog 19 #[.agg #[.int .u64 n, .string b]] w fun e w' => e = .returned (.tuple #[.string (encS n b), .int .i64 (encE n b)]) ∧ Below w.heap.size w w' := by
  unfold encS encE
  by_cases h : n = 0 ∨ 1073741824 < b.size
  · rw [if_pos h, if_pos h]
    refine refEnc_bad n b hb w ?_
    by_cases h0 : n = 0
    · exact .inl (by rw [h0]; rfl)
    · exact .inr ⟨by rw [beq_eq_false_iff_ne]; omega, by rcases h with h | h; exact absurd h h0; exact h⟩
  · rw [if_neg h, if_neg h]
    exact refEnc_ok n b hn (by rw [beq_eq_false_iff_ne]; omega) (by omega) w

end Go.Proofs.YtfbjmhipjfjaeaaGreatDoor

namespace Go.Proofs.YtfbjmhipjfjaeaaGreatDoor
open Go.ChangeShapes Go.WideShapes Go.ChangeAt Go.RowKit
set_option linter.unusedVariables false

/-- A slice whose cells are those of groups. -/
def GCells (w : World) (v : Value) (gs : List Pl.Grp) : Prop :=
  ∃ ao cp, v = .slice ao gs.length cp ∧ (gs = [] ∨ ∃ g, ao = some ⟨g, 0, none⟩ ∧ g < w.heap.size ∧ ∀ j x, gs[j]? = some x → w.cell? ⟨g, j * 2, none⟩ = some (.int .u64 x.1) ∧ w.cell? ⟨g, j * 2 + 1, none⟩ = some (.string (str x.2)))
theorem cellsG_at : ∀ (gs : List Pl.Grp) (j : Nat) (x : Pl.Grp), gs[j]? = some x → (cellsG gs)[j * 2]? = some (.int .u64 x.1) ∧ (cellsG gs)[j * 2 + 1]? = some (.string (str x.2))
  | [], j, x, h => by simp at h
  | g :: gs, 0, x, h => by simp at h; subst h; exact ⟨rfl, rfl⟩
  | g :: gs, j + 1, x, h => by
    have := cellsG_at gs j x (by simpa using h)
    rw [show (j + 1) * 2 = j * 2 + 1 + 1 by omega]
    exact this
theorem GRow.cells {w : World} {base : Nat} {v : Value} {gs : List Pl.Grp} (h : GRow w base v gs) : GCells w v gs := by
  rcases h.2 with ⟨h1, h2⟩ | ⟨g, cap, cur, h1, _, h4, _⟩
  · exact ⟨none, 0, by rw [h1, h2], .inl (List.length_eq_zero_iff.1 h2)⟩
  · subst h1
    refine ⟨_, cap, rfl, .inr ⟨g, rfl, (Array.getElem?_eq_some_iff.1 h4).1, fun j x hx => ?_⟩⟩
    have hj := (List.getElem?_eq_some_iff.1 hx).1
    have := cellsG_at gs j x hx
    rw [World.ownsRow.cellAt h _ (by omega), World.ownsRow.cellAt h _ (by omega)]
    exact this
theorem GCells.kept {w w' : World} {v : Value} {gs : List Pl.Grp} (h : GCells w v gs) (hb : Below w.heap.size w w') : GCells w' v gs := by
  obtain ⟨ao, cp, rfl, h⟩ := h
  refine ⟨ao, cp, rfl, h.imp id ?_⟩
  rintro ⟨g, rfl, hg, hc⟩
  exact ⟨g, rfl, Nat.lt_of_lt_of_le hg hb.size, fun j x hx => ⟨(hb.cell (by exact hg)).trans (hc j x hx).1, (hb.cell (by exact hg)).trans (hc j x hx).2⟩⟩

end Go.Proofs.YtfbjmhipjfjaeaaGreatDoor

namespace Go.Proofs.YtfbjmhipjfjaeaaGreatDoor.Pl

/-- Groups with these bodies, from a number on. -/
def grps (f : Nat) : List (List UInt8) → List Grp
  | [] => []
  | b :: l => (f, b) :: grps (f + 1) l
theorem grps_length : ∀ (l : List (List UInt8)) (f : Nat), (grps f l).length = l.length
  | [], _ => rfl
  | b :: l, f => by simp [grps, grps_length l]
theorem grps_snoc : ∀ (l : List (List UInt8)) (f : Nat) (b : List UInt8), grps f (l ++ [b]) = grps f l ++ [(f + l.length, b)]
  | [], f, b => by simp [grps]
  | a :: l, f, b => by simp [grps, grps_snoc l (f + 1) b]; omega
theorem grps_append : ∀ (l m : List (List UInt8)) (f : Nat), grps f (l ++ m) = grps f l ++ grps (f + l.length) m
  | [], m, f => by simp [grps]
  | a :: l, m, f => by
    have h := grps_append l m (f + 1)
    simp only [grps, List.cons_append, h, List.length_cons]
    rw [show f + 1 + l.length = f + (l.length + 1) by omega]
theorem lastN_grps {l : List (List UInt8)} {f : Nat} (h : l ≠ []) : lastN (grps f l) + 1 = f + l.length := by
  rw [← List.dropLast_concat_getLast h, grps_snoc, lastN_snoc]
  simp; omega
def encAll (gs : List Grp) : List UInt8 := gs.flatMap fun g => encL g.1 g.2
theorem encAll_append (a b : List Grp) : encAll (a ++ b) = encAll a ++ encAll b := by simp [encAll]
theorem encAll_snoc (a : List Grp) (n : Nat) (b : List UInt8) : encAll (a ++ [(n, b)]) = encAll a ++ encL n b := by simp [encAll]

/-- The scan goes along groups that stand in their order. -/
theorem along {f : Nat} (hf : f ≠ 0) (x : List UInt8) : ∀ (m l : List (List UInt8)), f + (l ++ m).length ≤ 18446744073709551616 → (∀ b ∈ m, b.length ≤ maxG) →
    Scanning (encAll (grps f (l ++ m)) ++ x) (grps f l) (encAll (grps f l)).length → Scanning (encAll (grps f (l ++ m)) ++ x) (grps f (l ++ m)) (encAll (grps f (l ++ m))).length
  | [], l, _, _, h => by rw [List.append_nil] at h ⊢; exact h
  | b :: m, l, hm, hb, h => by
    have e : l ++ b :: m = (l ++ [b]) ++ m := by simp
    rw [e] at h hm ⊢
    refine along hf x m (l ++ [b]) hm (fun c hc => hb c (List.mem_cons_of_mem _ hc)) ?_
    have hb1 := hb b (List.mem_cons_self ..)
    have hd : (encAll (grps f ((l ++ [b]) ++ m)) ++ x).drop (encAll (grps f l)).length = encL (f + l.length) b ++ (encAll (grps (f + (l ++ [b]).length) m) ++ x) := by
      rw [grps_append (l ++ [b]) m f, grps_snoc, encAll_append, encAll_snoc, List.append_assoc, List.append_assoc, drop_front rfl]
    have hg := dec_back (n := f + l.length) (b := b) (by omega) (by simp at hm; omega) hb1 (encAll (grps (f + (l ++ [b]).length) m) ++ x)
    rw [← hd] at hg
    have hlt : (encAll (grps f l)).length < (encAll (grps f ((l ++ [b]) ++ m)) ++ x).length := by
      have h1 := congrArg List.length hd
      rw [List.length_drop, List.length_append (as := encL (f + l.length) b), encL_length] at h1
      omega
    have hn := h.next hlt (by rw [hg]) (by
      by_cases h0 : l = []
      · left; subst h0; rfl
      · right; rw [hg]; exact (lastN_grps h0).symm)
    rw [hg] at hn
    rw [grps_snoc, encAll_snoc, List.length_append, encL_length]
    exact hn

theorem along_all {f : Nat} (hf : f ≠ 0) (x : List UInt8) (l : List (List UInt8)) (hl : f + l.length ≤ 18446744073709551616) (hb : ∀ b ∈ l, b.length ≤ maxG) :
    Scanning (encAll (grps f l) ++ x) (grps f l) (encAll (grps f l)).length :=
  along hf x l [] hl hb (Scanning.start _)

section
variable {f : Nat} (hf : f ≠ 0) {l : List (List UInt8)} (hl : f + l.length ≤ 18446744073709551616) (hb : ∀ b ∈ l, b.length ≤ maxG)
include hf hl hb
theorem scan_row : scan (encAll (grps f l)) = ⟨grps f l, (encAll (grps f l)).length, 0⟩ := by
  have h := along_all hf [] l hl hb
  rw [List.append_nil] at h
  exact h.done (Nat.le_refl _)
theorem scan_torn {n : Nat} {b : List UInt8} (hn0 : n ≠ 0) (hn : n < 18446744073709551616) (hbb : b.length ≤ maxG) {k : Nat} (hk0 : 0 < k) (hk : k < (encL n b).length) :
    scan (encAll (grps f l) ++ (encL n b).take k) = ⟨grps f l, (encAll (grps f l)).length, 251⟩ := by
  have h := along_all hf ((encL n b).take k) l hl hb
  have hd : (encAll (grps f l) ++ (encL n b).take k).drop (encAll (grps f l)).length = (encL n b).take k := drop_front rfl
  have ht := dec_torn hn0 hn hbb hk
  rw [← hd] at ht
  have hr := h.bad (by rw [List.length_append, List.length_take]; omega) (by rw [ht]; decide)
  rw [ht] at hr
  exact hr
theorem scan_order (h0 : l ≠ []) {n : Nat} {b : List UInt8} (hn0 : n ≠ 0) (hn : n < 18446744073709551616) (hbb : b.length ≤ maxG) (hne : n ≠ f + l.length) :
    scan (encAll (grps f l) ++ encL n b) = ⟨grps f l, (encAll (grps f l)).length, 253⟩ := by
  have h := along_all hf (encL n b) l hl hb
  have hd : (encAll (grps f l) ++ encL n b).drop (encAll (grps f l)).length = encL n b := drop_front rfl
  have ht := dec_back hn0 hn hbb []
  rw [List.append_nil, ← hd] at ht
  refine h.order (by rw [List.length_append, encL_length]; omega) (by rw [ht]) (fun hg => h0 ?_) ?_
  · have := grps_length l f; rw [hg] at this; exact List.length_eq_zero_iff.1 this.symm
  · rw [ht, lastN_grps h0]; exact hne
end

/-- How many bytes groups have, by their bodies' letters. -/
theorem encAll_length (f : Nat) : ∀ (l : List (List UInt8)), (encAll (grps f l)).length = 25 * l.length + (l.map List.length).sum := by
  intro l
  induction l generalizing f with
  | nil => rfl
  | cons b l ih =>
    have := ih (f + 1)
    simp only [grps, encAll, List.flatMap_cons, List.length_append, encL_length, List.length_cons, List.map_cons, List.sum_cons] at this ⊢
    omega

end Go.Proofs.YtfbjmhipjfjaeaaGreatDoor.Pl
