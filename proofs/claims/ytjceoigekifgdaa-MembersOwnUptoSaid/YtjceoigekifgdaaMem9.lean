/- Whether lists stayed; some examples. -/
import Derived.Test.YtjceoigekifgdaaMem8
namespace Go.Proofs.Ytjceoigekifgdaa
open Go.ChangeShapes Go.WideShapes Go.ChangeAt Go.RowKit Go.Sort
set_option linter.unusedVariables false

theorem same_true (t : List Tx) (v1 v2 : Value) (hn : t.length ≤ 9223372036854775807) (w : World) (h1 : TRow w v1 t) (h2 : TRow w v2 t) :
    Calls Try.prog 15 #[v1, v2] w fun e w' => e = .returned (.bool true) ∧ ∃ n, w' = w.drewN n :=
  (same_any t t v1 v2 hn w h1 h2).mono fun e w' h => ⟨by rw [h.1, decide_eq_true rfl], h.2⟩
theorem alloc_new2 (w : World) (o o' : Obj) : ((w.alloc o).alloc o').heap[w.heap.size + 1]? = some o' := by
  have := heap_alloc_new (w.alloc o) o'
  simpa using this
theorem drewN_below {w0 w : World} (h : Below w0.heap.size w0 w) (n : Nat) : Below w0.heap.size w0 (w.drewN n) := below_drewN h n
set_option maxHeartbeats 6400000 in
set_option maxRecDepth 100000 in
theorem kept_any (rs : List (List Tx)) (v1 v2 : Value) (hr : ∀ r ∈ rs, r.length ≤ 4398046511000) (hn : rs.length ≤ 4398046511000) (w0 w : World) (h1 : TwinsAt w0 w v1 rs) (h2 : TLRow w v2 rs) :
    Calls Try.prog 16 #[v1, v2] w fun e w' => e = .returned (.bool true) ∧ ∃ n, w' = w.drewN n := by
  obtain ⟨a1, c1, rfl⟩ := h1.shape
  obtain ⟨a2, c2, rfl, hh2⟩ := h2.open
  have H1 := Lib.hid h1
  have H2 := Lib.hid hh2
  have HR := Lib.hid hr
  clear h1 h2 hh2 hr
  go_enter Try.func16, Try.ntmps16
  go_wp2
  go_loopw [5] (fun i wr => ∃ k : Nat, k ≤ rs.length ∧ i = .int .i64 k ∧ Hid (∃ n, wr = w.drewN n)) (fun i _ => rs.length - (intOf i).toNat)
  case atStart => exact ⟨0, Nat.zero_le _, rfl, ⟨0, rfl⟩⟩
  case round =>
    obtain ⟨k, hk, rfl, HW⟩ := hrel
    by_cases hlt : k < rs.length
    · obtain ⟨t, ht⟩ : ∃ t, rs[k]? = some t := ⟨rs[k], List.getElem?_eq_getElem hlt⟩
      have htl := HR.out t (List.mem_of_getElem? ht)
      have bw : Below w.heap.size w wr := by obtain ⟨n, e⟩ := HW.out; rw [e]; exact below_drewN (Below.refl _ _) n
      rcases H2.out with h0 | ⟨g, off, rfl, hg, hc⟩
      · rw [h0] at hlt; exact absurd hlt (Nat.not_lt_zero _)
      obtain ⟨y, hy, hty⟩ := hc k t ht
      obtain ⟨ya, yc, rfl⟩ := hty.shape
      obtain ⟨xs, hxl, hrow, htw⟩ := H1.out
      obtain ⟨x, hx⟩ : ∃ x, xs[k]? = some x := ⟨xs[k]'(by omega), List.getElem?_eq_getElem _⟩
      have hT := htw k x t hx ht
      have hTR := hT.trow
      obtain ⟨g1, cp1, e1, _, hl1, _, hcell1⟩ := hrow.full (by omega)
      rw [Value.slice.injEq] at e1
      obtain ⟨rfl, _, rfl⟩ := e1
      have hx1 := hcell1 k x hx
      obtain ⟨g2, cp2, cur, rfl, _, hb2, hcp, hcm, hcs, htk⟩ := hT
      have hsp : w.cell? ⟨g2, t.length, none⟩ = some (.string ⟨#[115, 112, 97, 114, 101]⟩) := cell_take hb2 (xs := t ++ [spareT]) (by simpa using htk) (by rw [List.getElem?_append_right (Nat.le_refl _), Nat.sub_self]; rfl)
      have f1 : wr.cell? ⟨g, off + k, none⟩ = some (.slice ya t.length yc) := (bw.cell (p := ⟨g, off + k, none⟩) hg).trans hy
      have f2 : wr.cell? ⟨g1, k, none⟩ = some (.slice (some ⟨g2, 0, none⟩) t.length cp2) := (bw.cell (p := ⟨g1, k, none⟩) hl1).trans hx1
      have f3 : wr.cell? ⟨g2, t.length, none⟩ = some (.string ⟨#[115, 112, 97, 114, 101]⟩) := (bw.cell (p := ⟨g2, t.length, none⟩) (Array.getElem?_eq_some_iff.1 hb2).1).trans hsp
      have T1 : Hid (∀ N, TRow (wr.drewN N) (.slice (some ⟨g2, 0, none⟩) t.length cp2) t) := fun N => hTR.kept (below_drewN bw N)
      have T2 : Hid (∀ N, TRow (wr.drewN N) (.slice ya t.length yc) t) := fun N => hty.kept (below_drewN bw N)
      have hkI : (k : Int) < (rs.length : Int) := by omega
      have hk0 : (0 : Int) ≤ (k : Int) := by omega
      have q1 : (t.length : Int) + 1 ≤ (cp2 : Int) := by omega
      have q2 : (0 : Int) ≤ (t.length : Int) + 1 := by omega
      have q3 : (t.length : Int) < (t.length : Int) + 1 := by omega
      have q4 : t.length < t.length + 1 := by omega
      clear hc ht hx hy hty htw hrow hcell1 hTR hx1 hb2 hcm hcs htk hsp bw hxl H1 H2 HR hl1 hg
      go_wp2_with fail
      go_quiet (first | (go_at_call 15; exact Calls.quiet_of (v := .bool true) (same_true t _ _ (by omega) _ (T1.out _) (T2.out _))))
      go_wp2
      go_roundw
      case rel => exact ⟨k + 1, by omega, by go_num, by obtain ⟨n, e⟩ := HW.out; exact ⟨n + nq, by rw [e, drewN_add]⟩⟩
      case measure => simp [intOf]; omega
    · obtain rfl : rs.length = k := by omega
      go_wp2
      go_ret
      exact ⟨by simp, HW.out⟩
set_option maxHeartbeats 3200000 in
set_option maxRecDepth 100000 in
theorem awake_any (w : World) : Calls Try.prog 17 #[] w fun e w' => e = .returned (.bool true) ∧ Below w.heap.size w w' := by
  go_enter Try.func17, Try.ntmps17
  go_wp2_with fail
  have B0 : ∀ o, Hid (Below w.heap.size w (w.alloc o)) := fun o => (Below.refl _ _).alloc (Nat.le_refl _) o
  have B1 : ∀ o o', Hid (Below w.heap.size w ((w.alloc o).alloc o')) := fun o o' => below_alloc (B0 o).out o'
  refine (add_any [[98], [97]] [[99], [97], [99]] _ _ (by simp) (by simp) _ ?_ ?_).mono ?_
  · refine TRow.kept (w := w.alloc _) ?_ ((Below.refl _ _).alloc (Nat.le_refl _) _)
    exact TRow.laid (heap_alloc_new _ _) rfl
  · exact TRow.laid (alloc_new2 _ _ _) rfl
  rintro e w1 ⟨v, rfl, f1, b1⟩
  rw [show Pl.ofS ([[98], [97]] ++ [[99], [97], [99]]) = [[97], [98], [99]] by decide] at f1 ⊢
  rw [show Pl.ofS [[98], [97]] = [[97], [98]] by decide]
  obtain ⟨av, cv, rfl⟩ := f1.shape
  have M1 := Lib.hid (And.intro f1 (below_thru b1 (B1 _ _).out))
  clear f1 b1
  go_wp2_with fail
  refine (same_true [[97], [98], [99]] _ _ (by simp) _ ?_ ?_).mono ?_
  · exact M1.out.1.trow.kept ((Below.refl _ _).alloc (Nat.le_refl _) _)
  · exact TRow.laid (heap_alloc_new _ _) rfl
  rintro e w2 ⟨rfl, n2, rfl⟩
  have M2 := Lib.hid (below_drewN (below_alloc M1.out.2 (.cells #[.string ⟨#[97]⟩, .string ⟨#[98]⟩, .string ⟨#[99]⟩] 9)) n2)
  generalize (World.drewN _ n2) = w2 at *
  go_wp2_with fail
  refine (mOf_any [[98], [97], [98]] _ (by simp) _ ?_).mono ?_
  · exact TRow.laid (heap_alloc_new _ _) rfl
  rintro e w3 ⟨v3, rfl, f3, b3⟩
  rw [show Pl.ofS [[98], [97], [98]] = [[97], [98]] by decide] at f3
  obtain ⟨av3, cv3, rfl⟩ := f3.shape
  have M3 := Lib.hid (And.intro f3 (below_thru b3 (below_alloc M2.out _)))
  clear f3 b3
  go_wp2_with fail
  refine (same_true [[97], [98]] _ _ (by simp) _ ?_ ?_).mono ?_
  · exact M3.out.1.trow.kept ((Below.refl _ _).alloc (Nat.le_refl _) _)
  · exact TRow.laid (heap_alloc_new _ _) rfl
  rintro e w4 ⟨rfl, n4, rfl⟩
  go_wp2
  go_ret
  exact ⟨rfl, below_drewN (below_alloc M3.out.2 _) _⟩
end Go.Proofs.Ytjceoigekifgdaa
