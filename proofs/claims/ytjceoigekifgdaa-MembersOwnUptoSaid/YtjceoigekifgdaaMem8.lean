/- The law's lists in memory of their own. -/
import Derived.Test.YtjceoigekifgdaaMem7
import Derived.Deep.AppendLies
import Derived.Deep.RegionLaw
namespace Go.Proofs.Ytjceoigekifgdaa
open Go.ChangeShapes Go.WideShapes Go.ChangeAt Go.RowKit Go.Sort
set_option linter.unusedVariables false

theorem below_alloc {a w : World} (h : Below a.heap.size a w) (o : Obj) : Below a.heap.size a (w.alloc o) := h.alloc h.size o
theorem TwinsAt.next {w wr wx w5 : World} {v x : Value} {k gg cap : Nat} {xs : List Value} {rs : List (List Tx)} {t : List Tx} (hxl : xs.length = k) (hrl : (rs.take k).length = k) (hrow : Row wr (fun g => w.heap.size ≤ g) 22 v xs) (htw : ∀ (j : Nat) x t, xs[j]? = some x → (rs.take k)[j]? = some t → Twin w wr x t) (hbw : Below w.heap.size w wr) (bb : Below wr.heap.size wr wx) (htx : Twin w wx x t)
    (hown5 : w5.ownsRow 0 22 1 (.slice (some ⟨gg, 0, none⟩) (k + 1) cap) (k + 1) (xs ++ [x])) (hgrow : wx.grownBy w5 v.ownBlock) (hat : v.ownBlock = some gg ∨ gg = wx.heap.size) :
    TwinsAt w w5 (.slice (some ⟨gg, 0, none⟩) (k + 1) cap) (rs.take k ++ [t]) ∧ Below w.heap.size w w5 := by
  have ho := ownsRow0_below hrow.1 bb
  refine ⟨⟨xs ++ [x], by rw [List.length_append, List.length_append, hxl, hrl]; rfl, ⟨by rw [List.length_append, List.length_singleton, hxl]; exact hown5, fun g' hg' => ?_⟩, fun j y s hy hs => ?_⟩, (hbw.trans (bb.mono hbw.size)).grown hgrow (by have := hbw.size; have := bb.size; omega) (fun g hg => hrow.2 g hg)⟩
  · have : gg = g' := by simpa [Value.ownBlock] using hg'
    subst this
    rcases hat with hat | hat
    · exact hrow.2 _ hat
    · have := hbw.size; have := bb.size; show w.heap.size ≤ gg; omega
  · by_cases hj : j < k
    · rw [List.getElem?_append_left (by omega)] at hy hs
      exact ((htw j y s hy hs).kept bb).grown ho hgrow
    · have hj2 : j = k := by have := (List.getElem?_eq_some_iff.1 hy).1; simp at this; omega
      subst hj2
      rw [List.getElem?_append_right (by omega), hxl, Nat.sub_self] at hy
      rw [List.getElem?_append_right (by omega), hrl, Nat.sub_self] at hs
      simp at hy hs
      subst hy; subst hs
      exact htx.grown ho hgrow
set_option maxHeartbeats 6400000 in
set_option maxRecDepth 100000 in
theorem twins_any (rs : List (List Tx)) (v : Value) (hr : ∀ r ∈ rs, r.length ≤ 4398046511000) (hn : rs.length ≤ 4398046511000) (w : World) (h : TLRow w v rs) :
    Calls Try.prog 10 #[v] w fun e w' => TwinsEnd rs w e w' := by
  obtain ⟨ao, cp, rfl, hh⟩ := h.open
  have H := Lib.hid hh
  have HR := Lib.hid hr
  clear h hh hr
  obtain ⟨i0, hi, hz0, hz1, hz2⟩ := info_parts infoRow
  go_enter Try.func10, Try.ntmps10
  go_wp2
  go_loopw [3, 4] (fun o i wr => ∃ (k : Nat) (oa : Option Addr) (oc : Nat), k ≤ rs.length ∧ i = .int .i64 k ∧ o = .slice oa k oc ∧ Hid (TwinsAt w wr (.slice oa k oc) (rs.take k) ∧ Below w.heap.size w wr)) (fun _ i _ => rs.length - (intOf i).toNat)
  case atStart => exact ⟨0, none, 0, Nat.zero_le _, rfl, rfl, ⟨[], rfl, Row.nil _ _ _, fun j x t hx => by simp at hx⟩, Below.refl _ _⟩
  case round =>
    obtain ⟨k, oa, oc, hk, rfl, rfl, HM⟩ := hrel
    by_cases hlt : k < rs.length
    · obtain ⟨t, ht⟩ : ∃ t, rs[k]? = some t := ⟨rs[k], List.getElem?_eq_getElem hlt⟩
      rcases H.out with h0 | ⟨g, off, rfl, hg, hc⟩
      · rw [h0] at hlt; exact absurd hlt (Nat.not_lt_zero _)
      obtain ⟨x, hx, htx⟩ := hc k t ht
      obtain ⟨ta, tc, rfl⟩ := htx.shape
      have htl := HR.out t (List.mem_of_getElem? ht)
      have HT := Lib.hid ht
      have hxr : wr.cell? ⟨g, off + k, none⟩ = some (.slice ta t.length tc) := (HM.out.2.cell (p := ⟨g, off + k, none⟩) hg).trans hx
      have hxw := hx
      have hgr : g < wr.heap.size := Nat.lt_of_lt_of_le hg HM.out.2.size
      have k1 : ∀ w', Below wr.heap.size wr w' → w'.cell? ⟨g, off + k, none⟩ = some (.slice ta t.length tc) := fun w' hb => (hb.cell (p := ⟨g, off + k, none⟩) hgr).trans hxr
      have TB : ∀ w', Below wr.heap.size wr w' → TRow w' (.slice ta t.length tc) t := fun w' hb => (htx.kept HM.out.2).kept hb
      have hkI : (k : Int) < (rs.length : Int) := by omega
      have hk0 : (0 : Int) ≤ (k : Int) := by omega
      obtain ⟨xs, hxl, hrow, htw⟩ := HM.out.1
      have hrl : (rs.take k).length = k := by rw [List.length_take]; omega
      have hxk : xs.length = k := by rw [hxl, hrl]
      have HTW := Lib.hid htw
      have hown : wr.ownsRow 0 22 1 (.slice oa k oc) k xs := by have := hrow.1; rw [hxk] at this; exact this
      have h63 : k + 1 ≤ maxLen := by unfold maxLen; omega
      have hby : (k + 1) * 24 ≤ 140737488355328 := by omega
      clear hc ht hx htx htw H
      go_wp2_with fail
      have k0 : ∀ w', Below wr.heap.size wr w' → Below w.heap.size w w' := fun w' hb => HM.out.2.trans (hb.mono HM.out.2.size)
      have k5 : ∀ w', Below w.heap.size w w' → w'.cell? ⟨g, off + k, none⟩ = some (.slice ta t.length tc) := fun w' hb => (hb.cell (p := ⟨g, off + k, none⟩) hg).trans hxw
      go_region_held3 (fun w' => Below w.heap.size w w' ∧ w'.cell? ⟨g, off + k, none⟩ = some (.slice ta t.length tc))
        (first | exact ⟨k0 _ (by first | assumption | exact (Below.refl _ _).drew | exact below_alloc ((Below.refl _ _).drew) _ | exact below_alloc ‹_› _), k1 _ (by first | assumption | exact (Below.refl _ _).drew | exact below_alloc ((Below.refl _ _).drew) _ | exact below_alloc ‹_› _)⟩ | exact ⟨b5, k5 _ b5⟩)
        (first
          | (refine step_append_row (w0 := wr) rfl _ _ rfl [] t (.slice none 0 0) _ rfl rfl (Made.nil _ _) (TB _ ?_) ?_ (by simp; omega) ?_
             · first | assumption | exact (Below.refl _ _).drew | exact below_alloc ((Below.refl _ _).drew) _ | exact below_alloc ‹_› _
             · first | assumption | exact (Below.refl _ _).drew | exact below_alloc ((Below.refl _ _).drew) _ | exact below_alloc ‹_› _
             intro va wa ma ba ka
             have ka := ka rfl)
          | (refine step_append_row (w0 := wr) rfl _ _ rfl ([] ++ t) [spareT] va _ rfl rfl ?_ ?_ ?_ (by simp; omega) ?_
             · first | exact ma | exact ma.kept ((Below.refl _ _).alloc (Nat.le_refl _) _)
             · first | exact TRow.laid (heap_alloc_new _ _) rfl | (refine TRow.kept ?_ ka; exact TRow.laid (heap_alloc_new _ _) rfl)
             · first | assumption | exact (Below.refl _ _).drew | exact below_alloc ((Below.refl _ _).drew) _ | exact below_alloc ‹_› _
             intro vb wb mb bb kb
             obtain ⟨g2, cp2, rfl, hcp2, HX⟩ := Made.twin (t := t) (w := w) mb HM.out.2.size
             have qc1 : t.length ≤ cp2 := by omega
             have qc2 : (t.length : Int) ≤ (cp2 : Int) := by omega
             have qc3 : (0 : Int) ≤ (t.length : Int) := by omega
             clear kb mb)
          | (refine step_append_lies _ rfl _ _ _ rfl 0 22 i0 _ 1 24 Try.underlying23 hi hz0 hz1 hz2 rfl (by omega) (.slice oa k oc) k xs rfl (ownsRow0_below hown ?_) ⟨_, 0, none⟩ 1 1 [.slice (some ⟨g2, 0, none⟩) t.length cp2] rfl rfl (World.news_of_block (cs := #[.slice (some ⟨g2, 0, none⟩) t.length cp2]) (heap_alloc_new _ _)) (by intro u hu; simp at hu; subst hu; rfl) (by omega) h63 hby (Nat.zero_le _) _ rfl ?_
             · first | assumption | exact (Below.refl _ _).drew | exact below_alloc ((Below.refl _ _).drew) _ | exact below_alloc ‹_› _
             intro gg cap w5 hown5 hgrow hat hlt5
             have b5 : Below w.heap.size w w5 := (k0 _ (by first | assumption | exact (Below.refl _ _).drew | exact below_alloc ((Below.refl _ _).drew) _ | exact below_alloc ‹_› _)).grown hgrow (k0 _ (by first | assumption | exact (Below.refl _ _).drew | exact below_alloc ((Below.refl _ _).drew) _ | exact below_alloc ‹_› _)).size (fun k hk => hrow.2 k hk)))
      all_goals
        have HN := Lib.hid (TwinsAt.next (rs := rs) hxk hrl hrow HTW.out HM.out.2 (below_alloc bb _) (HX.out.kept ((Below.refl _ _).alloc (Nat.le_refl _) _)) hown5 hgrow hat)
        clear hown5 hgrow hat hrow hown k0 k1 k5 b5 TB hxr bb ba ka ma hlt5
        go_wp2
        go_roundw
        case rel => exact ⟨k + 1, _, cap, by omega, by go_num, rfl, by rw [take_row HT.out]; exact HN.out⟩
        case measure => simp [intOf]; omega
    · obtain rfl : rs.length = k := by omega
      go_wp2
      go_ret
      have := HM.out.1
      rw [List.take_length] at this
      exact ⟨_, rfl, this, HM.out.2⟩
end Go.Proofs.Ytjceoigekifgdaa
