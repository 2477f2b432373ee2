/- Joins. -/
import Derived.Test.YtjceoigekifgdaaMem11
namespace Go.Proofs.Ytjceoigekifgdaa
open Go.ChangeShapes Go.WideShapes Go.ChangeAt Go.RowKit Go.Sort
set_option linter.unusedVariables false

/-- A slice of rows, with its room. -/
def TLC (w : World) (oa : Option Addr) (cp : Nat) (rs : List (List Tx)) : Prop :=
  rs.length ≤ cp ∧ (rs = [] ∨ ∃ g off, oa = some ⟨g, off, none⟩ ∧ g < w.heap.size ∧ ∀ j r, rs[j]? = some r → ∃ x, w.cell? ⟨g, off + j, none⟩ = some x ∧ TRow w x r)
theorem TLC.kept {w w' : World} {oa : Option Addr} {cp : Nat} {rs : List (List Tx)} (h : TLC w oa cp rs) (hb : Below w.heap.size w w') : TLC w' oa cp rs := by
  refine ⟨h.1, h.2.imp id ?_⟩
  rintro ⟨g, off, rfl, hg, hc⟩
  refine ⟨g, off, rfl, Nat.lt_of_lt_of_le hg hb.size, fun j r hr => ?_⟩
  obtain ⟨x, hx, ht⟩ := hc j r hr
  exact ⟨x, (hb.cell (by exact hg)).trans hx, ht.kept hb⟩
theorem TLC.tail {w : World} {g off cp : Nat} {r : List Tx} {rs : List (List Tx)} (h : TLC w (some ⟨g, off, none⟩) cp (r :: rs)) : TLC w (if cp = 1 then some ⟨g, off, none⟩ else some ⟨g, off + 1, none⟩) (cp - 1) rs := by
  obtain ⟨h1, h3⟩ := h
  rw [List.length_cons] at h1
  refine ⟨by omega, ?_⟩
  rcases h3 with h3 | ⟨g', off', e, hg, hc⟩
  · simp at h3
  · simp only [Option.some.injEq, Addr.mk.injEq, and_true] at e
    obtain ⟨rfl, rfl⟩ := e
    by_cases e : rs = []
    · exact .inl e
    · have : 0 < rs.length := List.length_pos_iff.2 e
      right
      rw [if_neg (by omega)]
      refine ⟨g, off + 1, rfl, hg, fun j z hz => ?_⟩
      rw [show off + 1 + j = off + (j + 1) by omega]
      exact hc (j + 1) z (by simpa using hz)
theorem TLC.tl {w : World} {oa : Option Addr} {cp : Nat} {rs : List (List Tx)} (h : TLC w oa cp rs) : TLRow w (.slice oa rs.length cp) rs := by
  refine ⟨oa, cp, by rw [List.length_map], ?_⟩
  rcases h.2 with h | ⟨g, off, h1, h2, h3⟩
  · left; rw [h]; rfl
  · refine .inr ⟨g, off, h1, h2, fun j r hr => ?_⟩
    obtain ⟨t, ht, rfl⟩ : ∃ t, rs[j]? = some t ∧ strs t = r := by simpa using hr
    exact h3 j t ht
set_option maxHeartbeats 6400000 in
set_option maxRecDepth 100000 in
theorem refInter_any (rs : List (List Tx)) (v : Value) (hr : ∀ r ∈ rs, r.length ≤ 8796093022000) (hn : rs.length ≤ 9223372036854775000) (w : World) (h : TLRow w v rs) :
    Calls Try.prog 29 #[v] w fun e w' => MadeEnd (Pl.inters rs) w e w' := by
  obtain ⟨ao, cp, rfl, hh⟩ := h.open
  have H := Lib.hid hh
  clear h hh
  rcases rs with _ | ⟨r0, rest⟩
  · go_enter Try.func29, Try.ntmps29
    go_wp2
    go_ret
    exact ⟨_, rfl, Made.nil _ _, Below.refl _ _⟩
  · rcases H.out with h0 | ⟨g, off, rfl, hg, hc⟩
    · simp at h0
    obtain ⟨x0, hx0, ht0⟩ := hc 0 r0 rfl
    simp only [Nat.add_zero] at hx0
    have HT := Lib.hid ht0
    have HC := Lib.hid hc
    have HR := Lib.hid hr
    have hl0 := hr r0 (by simp)
    simp only [List.length_cons] at hn
    clear hc ht0 H hr
    rw [List.length_cons]
    obtain ⟨nR, hnR⟩ : ∃ nR, nR = rest.length + 1 := ⟨_, rfl⟩
    rw [← hnR] at hn ⊢
    have hz : ((nR : Int) == 0) = false := by rw [beq_eq_false_iff_ne]; omega
    have hz3 : (0 : Int) < (nR : Int) := by omega
    have HNR := Lib.hid hnR
    clear hnR
    go_enter Try.func29, Try.ntmps29
    go_wp2_with fail
    refine (refOf_any r0 x0 hl0 _ HT.out).mono ?_
    rintro e w1 ⟨a, rfl, m1, b1⟩
    obtain ⟨A, hA⟩ : ∃ A, Pl.ofS r0 = A := ⟨_, rfl⟩
    have hAl : A.length ≤ 8796093022000 := by rw [← hA]; exact Nat.le_trans (Pl.ofS_length _) hl0
    rw [hA] at m1
    obtain ⟨oa, ca, rfl, r1⟩ := m1.fresh.rowC
    have M1 := Lib.hid (And.intro m1 (And.intro b1 r1))
    have HA := Lib.hid hA
    clear m1 b1 r1 hA
    go_wp2
    go_loopw [3, 5] (fun o i wr => ∃ (k : Nat) (acc : List Tx) (oo : Option Addr) (oc : Nat), k ≤ A.length ∧ acc.length ≤ k ∧ i = .int .i64 k ∧ o = .slice oo acc.length oc ∧ Hid (Made w1 wr (.slice oo acc.length oc) acc ∧ Below w1.heap.size w1 wr) ∧ Hid (acc = (A.take k).filter fun x => Pl.everyL rest x)) (fun _ i _ => A.length - (intOf i).toNat)
    case atStart => exact ⟨0, [], none, 0, Nat.zero_le _, Nat.le_refl _, rfl, rfl, ⟨Made.nil _ _, Below.refl _ _⟩, by show _ = _; simp⟩
    case round =>
      obtain ⟨k, acc, oo, oc, hk, hacc, rfl, rfl, HM, HE⟩ := hrel
      by_cases hlt : k < A.length
      · obtain ⟨x, hx⟩ : ∃ x, A[k]? = some x := ⟨A[k], List.getElem?_eq_getElem hlt⟩
        rcases M1.out.2.2.2.2 with h0 | ⟨ga, offa, rfl, hga, hca⟩
        · rw [h0] at hlt; simp at hlt
        have hxa := hca k x hx
        have HX := Lib.hid hx
        have hxr : ∀ N, (wr.drewN N).cell? ⟨ga, offa + k, none⟩ = some (.string (str x)) := fun N => ((below_drewN HM.out.2 N).cell (p := ⟨ga, offa + k, none⟩) hga).trans hxa
        have hkI : (k : Int) < (A.length : Int) := by omega
        have hk0 : (0 : Int) ≤ (k : Int) := by omega
        clear hca hx hxa
        obtain ⟨wo, rfl⟩ : ∃ wo : World, wo = wr := ⟨_, rfl⟩
        go_wp2
        go_loopw [6, 7] (fun ot i w2 => ∃ (m : Nat) (b : Bool), 0 < m ∧ m ≤ nR ∧ i = .int .i64 (m : Int) ∧ ot = .bool b ∧ Hid (Pl.everyL (rest.take (m - 1)) x = b) ∧ Hid (∃ n, w2 = wo.drewN n)) (fun _ i _ => nR - (intOf i).toNat)
        case atStart => exact ⟨1, _, by omega, by omega, rfl, rfl, by show _ = _; rfl, ⟨0, rfl⟩⟩
        case round =>
          obtain ⟨m, b, hm0, hm, rfl, rfl, HB, HW⟩ := hrel
          obtain ⟨n, rfl⟩ := HW.out
          clear HW
          by_cases hmt : m < nR
          · obtain ⟨p, hp⟩ : ∃ p, m = p + 1 := ⟨m - 1, by omega⟩
            obtain ⟨r, hr⟩ : ∃ r, rest[p]? = some r := ⟨rest[p]'(by have := HNR.out; omega), List.getElem?_eq_getElem _⟩
            obtain ⟨xv, hxv, htv⟩ := HC.out m r (by rw [hp]; simpa using hr)
            have hrl := HR.out r (List.mem_cons_of_mem _ (List.mem_of_getElem? hr))
            have bw : ∀ N, Below w.heap.size w (wo.drewN N) := fun N => below_thru (below_drewN HM.out.2 N) M1.out.2.1
            have hcv : wo.cell? ⟨g, off + m, none⟩ = some xv := ((bw 0).cell (p := ⟨g, off + m, none⟩) hg).trans hxv
            have hcx : wo.cell? ⟨ga, offa + k, none⟩ = some (.string (str x)) := hxr 0
            have TV : Hid (∀ N, TRow (wo.drewN N) xv r) := fun N => htv.kept (bw N)
            have HN := Lib.hid (And.intro hr hp)
            have hmI : (m : Int) < (nR : Int) := by omega
            have hmI0 : (0 : Int) ≤ (m : Int) := by omega
            have HS : Hid (∀ b', (b && decide (x ∈ r)) = b' → Pl.everyL (rest.take (m + 1 - 1)) x = b') := fun b' hb' => by
              have := HB.out
              rw [hp] at this ⊢
              rw [Nat.add_sub_cancel] at this
              rw [show p + 1 + 1 - 1 = p + 1 by omega, take_row hr, every_snoc, this, hb']
            clear hr hxv htv hp
            cases b
            · go_wp2_with fail
              go_quiet (fail)
              go_wp2
              go_roundw
              case rel => exact ⟨m + 1, _, by omega, by omega, by go_num, rfl, HS.out _ rfl, ⟨_, by first | rfl | rw [drewN_add]⟩⟩
              case measure => simp [intOf]; omega
            · go_wp2_with fail
              go_quiet (first | (go_at_call 25; exact (has_str r xv x (by omega) _ (TV.out _)).mono fun e w' h => ⟨h.1, _, h.2⟩))
              go_wp2
              go_roundw
              case rel => exact ⟨m + 1, _, by omega, by omega, by go_num, rfl, HS.out _ rfl, ⟨_, by first | rfl | rw [drewN_add]⟩⟩
              case measure => simp [intOf]; omega
          · obtain rfl : nR = m := by omega
            have hB := HB.out
            rw [HNR.out, Nat.add_sub_cancel, List.take_length] at hB
            have HB2 := Lib.hid hB
            clear hB HB
            have MQ : ∀ N, Hid (Made w1 (wo.drewN N) (.slice oo acc.length oc) acc ∧ Below w1.heap.size w1 (wo.drewN N)) := fun N => ⟨HM.out.1.drewN N, below_drewN HM.out.2 N⟩
            have hcx := hxr n
            have hstep : (A.take (k + 1)).filter (fun x => Pl.everyL rest x) = acc ++ if b then [x] else [] := by
              rw [take_row HX.out, List.filter_append, ← HE.out, List.filter_cons, HB2.out]
              cases b <;> rfl
            have HS := Lib.hid hstep
            clear hstep
            cases b
            · go_wp2
              go_roundw
              case rel => exact ⟨k + 1, acc, oo, oc, by omega, by omega, by go_num, rfl, MQ _, by show _ = _; rw [HS.out]; simp⟩
              case measure => simp [intOf]; omega
            · skip
              go_wp2_with (at_builtin; refine wpList_append_one _ rfl _ _ 22 rfl w1.heap.size 9 (.string ⟨#[]⟩) 16 Try.underlying22 infoS rfl _ acc.length (acc.map strV) rfl (by exact (MQ _).out.1.owns) (.string (str x)) rfl rfl (by simp only [maxLen]; omega) (by omega) (by exact (MQ _).out.2.size) ?_; intro v5 w5 hown5 hg5 hbl; have hb5 := hbl w1 w1.heap.size (by exact (MQ _).out.2) (Nat.le_refl _); clear hbl hg5; obtain ⟨a5, c5, rfl, HM5⟩ := grownT hown5 hb5; clear hown5 hb5)
              go_wp2
              go_roundw
              case rel => exact ⟨k + 1, acc ++ [x], a5, c5, by omega, by simp; omega, by go_num, by simp, by simpa using HM5, by show _ = _; rw [HS.out]; rfl⟩
              case measure => simp [intOf]; omega
      · obtain rfl : A.length = k := by omega
        go_wp2
        go_ret
        have := HE.out
        rw [List.take_length, ← HA.out] at this
        refine ⟨_, rfl, ?_, below_thru HM.out.2 M1.out.2.1⟩
        show Made w wr _ ((Pl.ofS r0).filter fun x => Pl.everyL rest x)
        rw [← this]
        exact HM.out.1.later M1.out.2.1.size

set_option maxHeartbeats 1600000 in
set_option maxRecDepth 100000 in
theorem mDiff_any (rs : List (List Tx)) (oa : Option Addr) (cp : Nat) (hr : ∀ r ∈ rs, r.length ≤ 1048576) (hn : rs.length ≤ 1048576) (w : World) (h : TLC w oa cp rs) :
    Calls Try.prog 30 #[.slice oa rs.length cp] w fun e w' => FreshEnd (Pl.diffs rs) w e w' := by
  have H := Lib.hid h
  clear h
  rcases rs with _ | ⟨r0, rest⟩
  · go_enter Try.func30, Try.ntmps30
    go_wp2
    go_ret
    exact ⟨_, rfl, (Made.nil _ _).fresh, Below.refl _ _⟩
  · rcases H.out.2 with h0 | ⟨g, off, rfl, hg, hc⟩
    · simp at h0
    obtain ⟨x0, hx0, ht0⟩ := hc 0 r0 rfl
    simp only [Nat.add_zero] at hx0
    have HT := Lib.hid ht0
    have HR := Lib.hid hr
    have HL := Lib.hid (TLC.tail H.out)
    have hl0 := hr r0 (by simp)
    have hcp := H.out.1
    simp only [List.length_cons] at hn hcp
    have hz : (((rest.length + 1 : Nat) : Int) == 0) = false := by rw [beq_eq_false_iff_ne]; omega
    have hz2 : ((rest.length : Int) + 1 == 0) = false := by rw [beq_eq_false_iff_ne]; omega
    have q1 : (rest.length : Int) + 1 ≤ (cp : Int) := by omega
    clear hc ht0 H hr
    rw [List.length_cons]
    go_enter Try.func30, Try.ntmps30
    go_wp2_with fail
    refine (mOf_any r0 x0 (by omega) _ HT.out).mono ?_
    rintro e w1 ⟨a, rfl, m1, b1⟩
    obtain ⟨A, hA⟩ : ∃ A, Pl.ofS r0 = A := ⟨_, rfl⟩
    have hAl : A.length ≤ 1048576 := by rw [← hA]; exact Nat.le_trans (Pl.ofS_length _) hl0
    have hAr : Hid (Pl.Rising A) := hA ▸ Pl.rising_ofS r0
    rw [hA] at m1
    obtain ⟨ob, cb, rfl⟩ := m1.shape
    have M1 := Lib.hid (And.intro m1 b1)
    have HA := Lib.hid hA
    clear m1 b1 hA
    go_wp2
    · have hc1 : cp = 1 := by assumption
      have HL2 : Hid (TLC w1 (some ⟨g, off, none⟩) (cp - 1) rest) := by
        have := HL.out.kept M1.out.2
        rw [if_pos hc1] at this
        exact this
      clear HL hc1
      generalize (some ⟨g, off, none⟩ : Option Addr) = ot at *
      go_loopw [3, 16] (fun o i wr => ∃ (k : Nat) (B : List Tx) (oo : Option Addr) (oc : Nat), k ≤ rest.length ∧ i = .int .i64 k ∧ o = .slice oo B.length oc ∧ B.length ≤ 1048576 ∧ Hid (Fresh w wr (.slice oo B.length oc) B ∧ Below w1.heap.size w1 wr) ∧ Hid (B = A.filter fun x => !Pl.alone (rest.take k) x)) (fun _ i _ => rest.length - (intOf i).toNat)
      case atStart => exact ⟨0, A, _, _, Nat.zero_le _, rfl, rfl, hAl, ⟨M1.out.1, Below.refl _ _⟩, by show _ = _; symm; rw [List.filter_eq_self]; intro x _; rfl⟩
      case round =>
        obtain ⟨k, B, oo, oc, hk, rfl, rfl, hBl, HM, HE⟩ := hrel
        by_cases hlt : k < rest.length
        · obtain ⟨r, hr⟩ : ∃ r, rest[k]? = some r := ⟨rest[k], List.getElem?_eq_getElem hlt⟩
          rcases HL2.out.2 with h0 | ⟨g2, off2, rfl, hg2, hc2⟩
          · rw [h0] at hlt; simp at hlt
          obtain ⟨x, hx, htx⟩ := hc2 k r hr
          have hrl := HR.out r (List.mem_cons_of_mem _ (List.mem_of_getElem? hr))
          have hxr : wr.cell? ⟨g2, off2 + k, none⟩ = some x := (HM.out.2.cell (p := ⟨g2, off2 + k, none⟩) hg2).trans hx
          have TR : Hid (TRow wr x r) := htx.kept HM.out.2
          have HX := Lib.hid hr
          have hkI : (k : Int) < (rest.length : Int) := by omega
          have hk0 : (0 : Int) ≤ (k : Int) := by omega
          have hBr : Pl.Rising B := by rw [HE.out]; exact Pl.rising_sub List.filter_sublist hAr.out
          have HBR := Lib.hid hBr
          clear hc2 hx htx hr hBr
          go_wp2_with fail
          refine (mOf_any r x (by omega) _ TR.out).mono ?_
          rintro e w2 ⟨y, rfl, m2, b2⟩
          have hol := Pl.ofS_length r
          obtain ⟨o2, c2, rfl, r2⟩ := m2.rowC
          obtain ⟨o1, c1, e1, r1⟩ := HM.out.1.rowC
          rw [Value.slice.injEq] at e1
          obtain ⟨rfl, _, rfl⟩ := e1
          have M2 := Lib.hid (And.intro b2 (And.intro r1 r2))
          clear m2 b2 r1 r2
          go_wp2_with fail
          refine (merge_any B (Pl.ofS r) true false false _ _ _ _ (by omega) _ (M2.out.2.1.kept M2.out.1) M2.out.2.2).mono ?_
          rintro e w3 ⟨y3, rfl, m3, b3⟩
          rw [Pl.mg_diff _ _ HBR.out] at m3
          obtain ⟨C, hC⟩ : ∃ C, B.filter (fun x => !r.contains x) = C := ⟨_, rfl⟩
          rw [hC] at m3
          have hCl : C.length ≤ 1048576 := by rw [← hC]; exact Nat.le_trans (List.length_filter_le _ _) hBl
          have hstep : C = A.filter fun x => !Pl.alone (rest.take (k + 1)) x := by
            rw [← hC, HE.out, List.filter_filter]
            congr 1
            funext x
            rw [take_row HX.out, alone_snoc]
            cases Pl.alone (List.take k rest) x <;> cases h : r.contains x <;> simp_all
          obtain ⟨o3, c3, rfl⟩ := m3.shape
          have b12 := below_thru M2.out.1 HM.out.2
          have HN : Hid (Fresh w w3 (.slice o3 C.length c3) C ∧ Below w1.heap.size w1 w3) := ⟨m3.fresh.thru (below_thru b12 M1.out.2), below_thru b3 b12⟩
          have HS := Lib.hid hstep
          clear m3 b3 hC hstep b12
          go_wp2
          go_roundw
          case rel => exact ⟨k + 1, C, o3, c3, by omega, by go_num, rfl, hCl, HN, HS.out⟩
          case measure => simp [intOf]; omega
        · obtain rfl : rest.length = k := by omega
          go_wp2
          go_ret
          have := HE.out
          rw [List.take_length, ← HA.out] at this
          refine ⟨_, rfl, ?_, below_thru HM.out.2 M1.out.2⟩
          show Fresh w wr _ ((Pl.ofS r0).filter fun x => !Pl.alone rest x)
          rw [← this]
          exact HM.out.1
    · have hc1 : ¬ cp = 1 := by assumption
      have HL2 : Hid (TLC w1 (some ⟨g, off + 1, none⟩) (cp - 1) rest) := by
        have := HL.out.kept M1.out.2
        rw [if_neg hc1] at this
        exact this
      clear HL hc1
      generalize (some ⟨g, off + 1, none⟩ : Option Addr) = ot at *
      go_loopw [3, 16] (fun o i wr => ∃ (k : Nat) (B : List Tx) (oo : Option Addr) (oc : Nat), k ≤ rest.length ∧ i = .int .i64 k ∧ o = .slice oo B.length oc ∧ B.length ≤ 1048576 ∧ Hid (Fresh w wr (.slice oo B.length oc) B ∧ Below w1.heap.size w1 wr) ∧ Hid (B = A.filter fun x => !Pl.alone (rest.take k) x)) (fun _ i _ => rest.length - (intOf i).toNat)
      case atStart => exact ⟨0, A, _, _, Nat.zero_le _, rfl, rfl, hAl, ⟨M1.out.1, Below.refl _ _⟩, by show _ = _; symm; rw [List.filter_eq_self]; intro x _; rfl⟩
      case round =>
        obtain ⟨k, B, oo, oc, hk, rfl, rfl, hBl, HM, HE⟩ := hrel
        by_cases hlt : k < rest.length
        · obtain ⟨r, hr⟩ : ∃ r, rest[k]? = some r := ⟨rest[k], List.getElem?_eq_getElem hlt⟩
          rcases HL2.out.2 with h0 | ⟨g2, off2, rfl, hg2, hc2⟩
          · rw [h0] at hlt; simp at hlt
          obtain ⟨x, hx, htx⟩ := hc2 k r hr
          have hrl := HR.out r (List.mem_cons_of_mem _ (List.mem_of_getElem? hr))
          have hxr : wr.cell? ⟨g2, off2 + k, none⟩ = some x := (HM.out.2.cell (p := ⟨g2, off2 + k, none⟩) hg2).trans hx
          have TR : Hid (TRow wr x r) := htx.kept HM.out.2
          have HX := Lib.hid hr
          have hkI : (k : Int) < (rest.length : Int) := by omega
          have hk0 : (0 : Int) ≤ (k : Int) := by omega
          have hBr : Pl.Rising B := by rw [HE.out]; exact Pl.rising_sub List.filter_sublist hAr.out
          have HBR := Lib.hid hBr
          clear hc2 hx htx hr hBr
          go_wp2_with fail
          refine (mOf_any r x (by omega) _ TR.out).mono ?_
          rintro e w2 ⟨y, rfl, m2, b2⟩
          have hol := Pl.ofS_length r
          obtain ⟨o2, c2, rfl, r2⟩ := m2.rowC
          obtain ⟨o1, c1, e1, r1⟩ := HM.out.1.rowC
          rw [Value.slice.injEq] at e1
          obtain ⟨rfl, _, rfl⟩ := e1
          have M2 := Lib.hid (And.intro b2 (And.intro r1 r2))
          clear m2 b2 r1 r2
          go_wp2_with fail
          refine (merge_any B (Pl.ofS r) true false false _ _ _ _ (by omega) _ (M2.out.2.1.kept M2.out.1) M2.out.2.2).mono ?_
          rintro e w3 ⟨y3, rfl, m3, b3⟩
          rw [Pl.mg_diff _ _ HBR.out] at m3
          obtain ⟨C, hC⟩ : ∃ C, B.filter (fun x => !r.contains x) = C := ⟨_, rfl⟩
          rw [hC] at m3
          have hCl : C.length ≤ 1048576 := by rw [← hC]; exact Nat.le_trans (List.length_filter_le _ _) hBl
          have hstep : C = A.filter fun x => !Pl.alone (rest.take (k + 1)) x := by
            rw [← hC, HE.out, List.filter_filter]
            congr 1
            funext x
            rw [take_row HX.out, alone_snoc]
            cases Pl.alone (List.take k rest) x <;> cases h : r.contains x <;> simp_all
          obtain ⟨o3, c3, rfl⟩ := m3.shape
          have b12 := below_thru M2.out.1 HM.out.2
          have HN : Hid (Fresh w w3 (.slice o3 C.length c3) C ∧ Below w1.heap.size w1 w3) := ⟨m3.fresh.thru (below_thru b12 M1.out.2), below_thru b3 b12⟩
          have HS := Lib.hid hstep
          clear m3 b3 hC hstep b12
          go_wp2
          go_roundw
          case rel => exact ⟨k + 1, C, o3, c3, by omega, by go_num, rfl, hCl, HN, HS.out⟩
          case measure => simp [intOf]; omega
        · obtain rfl : rest.length = k := by omega
          go_wp2
          go_ret
          have := HE.out
          rw [List.take_length, ← HA.out] at this
          refine ⟨_, rfl, ?_, below_thru HM.out.2 M1.out.2⟩
          show Fresh w wr _ ((Pl.ofS r0).filter fun x => !Pl.alone rest x)
          rw [← this]
          exact HM.out.1

set_option maxHeartbeats 1600000 in
set_option maxRecDepth 100000 in
theorem mInter_any (rs : List (List Tx)) (oa : Option Addr) (cp : Nat) (hr : ∀ r ∈ rs, r.length ≤ 1048576) (hn : rs.length ≤ 1048576) (w : World) (h : TLC w oa cp rs) :
    Calls Try.prog 28 #[.slice oa rs.length cp] w fun e w' => FreshEnd (Pl.inters rs) w e w' := by
  have H := Lib.hid h
  clear h
  rcases rs with _ | ⟨r0, rest⟩
  · go_enter Try.func28, Try.ntmps28
    go_wp2
    go_ret
    exact ⟨_, rfl, (Made.nil _ _).fresh, Below.refl _ _⟩
  · rcases H.out.2 with h0 | ⟨g, off, rfl, hg, hc⟩
    · simp at h0
    obtain ⟨x0, hx0, ht0⟩ := hc 0 r0 rfl
    simp only [Nat.add_zero] at hx0
    have HT := Lib.hid ht0
    have HR := Lib.hid hr
    have HL := Lib.hid (TLC.tail H.out)
    have hl0 := hr r0 (by simp)
    have hcp := H.out.1
    simp only [List.length_cons] at hn hcp
    have hz : (((rest.length + 1 : Nat) : Int) == 0) = false := by rw [beq_eq_false_iff_ne]; omega
    have hz2 : ((rest.length : Int) + 1 == 0) = false := by rw [beq_eq_false_iff_ne]; omega
    have q1 : (rest.length : Int) + 1 ≤ (cp : Int) := by omega
    clear hc ht0 H hr
    rw [List.length_cons]
    go_enter Try.func28, Try.ntmps28
    go_wp2_with fail
    refine (mOf_any r0 x0 (by omega) _ HT.out).mono ?_
    rintro e w1 ⟨a, rfl, m1, b1⟩
    obtain ⟨A, hA⟩ : ∃ A, Pl.ofS r0 = A := ⟨_, rfl⟩
    have hAl : A.length ≤ 1048576 := by rw [← hA]; exact Nat.le_trans (Pl.ofS_length _) hl0
    have hAr : Hid (Pl.Rising A) := hA ▸ Pl.rising_ofS r0
    rw [hA] at m1
    obtain ⟨ob, cb, rfl⟩ := m1.shape
    have M1 := Lib.hid (And.intro m1 b1)
    have HA := Lib.hid hA
    clear m1 b1 hA
    go_wp2
    · have hc1 : cp = 1 := by assumption
      have HL2 : Hid (TLC w1 (some ⟨g, off, none⟩) (cp - 1) rest) := by
        have := HL.out.kept M1.out.2
        rw [if_pos hc1] at this
        exact this
      clear HL hc1
      generalize (some ⟨g, off, none⟩ : Option Addr) = ot at *
      go_loopw [3, 16] (fun o i wr => ∃ (k : Nat) (B : List Tx) (oo : Option Addr) (oc : Nat), k ≤ rest.length ∧ i = .int .i64 k ∧ o = .slice oo B.length oc ∧ B.length ≤ 1048576 ∧ Hid (Fresh w wr (.slice oo B.length oc) B ∧ Below w1.heap.size w1 wr) ∧ Hid (B = A.filter fun x => Pl.everyL (rest.take k) x)) (fun _ i _ => rest.length - (intOf i).toNat)
      case atStart => exact ⟨0, A, _, _, Nat.zero_le _, rfl, rfl, hAl, ⟨M1.out.1, Below.refl _ _⟩, by show _ = _; symm; rw [List.filter_eq_self]; intro x _; rfl⟩
      case round =>
        obtain ⟨k, B, oo, oc, hk, rfl, rfl, hBl, HM, HE⟩ := hrel
        by_cases hlt : k < rest.length
        · obtain ⟨r, hr⟩ : ∃ r, rest[k]? = some r := ⟨rest[k], List.getElem?_eq_getElem hlt⟩
          rcases HL2.out.2 with h0 | ⟨g2, off2, rfl, hg2, hc2⟩
          · rw [h0] at hlt; simp at hlt
          obtain ⟨x, hx, htx⟩ := hc2 k r hr
          have hrl := HR.out r (List.mem_cons_of_mem _ (List.mem_of_getElem? hr))
          have hxr : wr.cell? ⟨g2, off2 + k, none⟩ = some x := (HM.out.2.cell (p := ⟨g2, off2 + k, none⟩) hg2).trans hx
          have TR : Hid (TRow wr x r) := htx.kept HM.out.2
          have HX := Lib.hid hr
          have hkI : (k : Int) < (rest.length : Int) := by omega
          have hk0 : (0 : Int) ≤ (k : Int) := by omega
          have hBr : Pl.Rising B := by rw [HE.out]; exact Pl.rising_sub List.filter_sublist hAr.out
          have HBR := Lib.hid hBr
          clear hc2 hx htx hr hBr
          go_wp2_with fail
          refine (mOf_any r x (by omega) _ TR.out).mono ?_
          rintro e w2 ⟨y, rfl, m2, b2⟩
          have hol := Pl.ofS_length r
          obtain ⟨o2, c2, rfl, r2⟩ := m2.rowC
          obtain ⟨o1, c1, e1, r1⟩ := HM.out.1.rowC
          rw [Value.slice.injEq] at e1
          obtain ⟨rfl, _, rfl⟩ := e1
          have M2 := Lib.hid (And.intro b2 (And.intro r1 r2))
          clear m2 b2 r1 r2
          go_wp2_with fail
          refine (merge_any B (Pl.ofS r) false true false _ _ _ _ (by omega) _ (M2.out.2.1.kept M2.out.1) M2.out.2.2).mono ?_
          rintro e w3 ⟨y3, rfl, m3, b3⟩
          rw [Pl.mg_inter _ _ HBR.out] at m3
          obtain ⟨C, hC⟩ : ∃ C, B.filter (fun x => r.contains x) = C := ⟨_, rfl⟩
          rw [hC] at m3
          have hCl : C.length ≤ 1048576 := by rw [← hC]; exact Nat.le_trans (List.length_filter_le _ _) hBl
          have hstep : C = A.filter fun x => Pl.everyL (rest.take (k + 1)) x := by
            rw [← hC, HE.out, List.filter_filter]
            congr 1
            funext x
            rw [take_row HX.out, every_snoc]
            cases Pl.everyL (List.take k rest) x <;> cases h : r.contains x <;> simp_all
          obtain ⟨o3, c3, rfl⟩ := m3.shape
          have b12 := below_thru M2.out.1 HM.out.2
          have HN : Hid (Fresh w w3 (.slice o3 C.length c3) C ∧ Below w1.heap.size w1 w3) := ⟨m3.fresh.thru (below_thru b12 M1.out.2), below_thru b3 b12⟩
          have HS := Lib.hid hstep
          clear m3 b3 hC hstep b12
          go_wp2
          go_roundw
          case rel => exact ⟨k + 1, C, o3, c3, by omega, by go_num, rfl, hCl, HN, HS.out⟩
          case measure => simp [intOf]; omega
        · obtain rfl : rest.length = k := by omega
          go_wp2
          go_ret
          have := HE.out
          rw [List.take_length, ← HA.out] at this
          refine ⟨_, rfl, ?_, below_thru HM.out.2 M1.out.2⟩
          show Fresh w wr _ ((Pl.ofS r0).filter fun x => Pl.everyL rest x)
          rw [← this]
          exact HM.out.1
    · have hc1 : ¬ cp = 1 := by assumption
      have HL2 : Hid (TLC w1 (some ⟨g, off + 1, none⟩) (cp - 1) rest) := by
        have := HL.out.kept M1.out.2
        rw [if_neg hc1] at this
        exact this
      clear HL hc1
      generalize (some ⟨g, off + 1, none⟩ : Option Addr) = ot at *
      go_loopw [3, 16] (fun o i wr => ∃ (k : Nat) (B : List Tx) (oo : Option Addr) (oc : Nat), k ≤ rest.length ∧ i = .int .i64 k ∧ o = .slice oo B.length oc ∧ B.length ≤ 1048576 ∧ Hid (Fresh w wr (.slice oo B.length oc) B ∧ Below w1.heap.size w1 wr) ∧ Hid (B = A.filter fun x => Pl.everyL (rest.take k) x)) (fun _ i _ => rest.length - (intOf i).toNat)
      case atStart => exact ⟨0, A, _, _, Nat.zero_le _, rfl, rfl, hAl, ⟨M1.out.1, Below.refl _ _⟩, by show _ = _; symm; rw [List.filter_eq_self]; intro x _; rfl⟩
      case round =>
        obtain ⟨k, B, oo, oc, hk, rfl, rfl, hBl, HM, HE⟩ := hrel
        by_cases hlt : k < rest.length
        · obtain ⟨r, hr⟩ : ∃ r, rest[k]? = some r := ⟨rest[k], List.getElem?_eq_getElem hlt⟩
          rcases HL2.out.2 with h0 | ⟨g2, off2, rfl, hg2, hc2⟩
          · rw [h0] at hlt; simp at hlt
          obtain ⟨x, hx, htx⟩ := hc2 k r hr
          have hrl := HR.out r (List.mem_cons_of_mem _ (List.mem_of_getElem? hr))
          have hxr : wr.cell? ⟨g2, off2 + k, none⟩ = some x := (HM.out.2.cell (p := ⟨g2, off2 + k, none⟩) hg2).trans hx
          have TR : Hid (TRow wr x r) := htx.kept HM.out.2
          have HX := Lib.hid hr
          have hkI : (k : Int) < (rest.length : Int) := by omega
          have hk0 : (0 : Int) ≤ (k : Int) := by omega
          have hBr : Pl.Rising B := by rw [HE.out]; exact Pl.rising_sub List.filter_sublist hAr.out
          have HBR := Lib.hid hBr
          clear hc2 hx htx hr hBr
          go_wp2_with fail
          refine (mOf_any r x (by omega) _ TR.out).mono ?_
          rintro e w2 ⟨y, rfl, m2, b2⟩
          have hol := Pl.ofS_length r
          obtain ⟨o2, c2, rfl, r2⟩ := m2.rowC
          obtain ⟨o1, c1, e1, r1⟩ := HM.out.1.rowC
          rw [Value.slice.injEq] at e1
          obtain ⟨rfl, _, rfl⟩ := e1
          have M2 := Lib.hid (And.intro b2 (And.intro r1 r2))
          clear m2 b2 r1 r2
          go_wp2_with fail
          refine (merge_any B (Pl.ofS r) false true false _ _ _ _ (by omega) _ (M2.out.2.1.kept M2.out.1) M2.out.2.2).mono ?_
          rintro e w3 ⟨y3, rfl, m3, b3⟩
          rw [Pl.mg_inter _ _ HBR.out] at m3
          obtain ⟨C, hC⟩ : ∃ C, B.filter (fun x => r.contains x) = C := ⟨_, rfl⟩
          rw [hC] at m3
          have hCl : C.length ≤ 1048576 := by rw [← hC]; exact Nat.le_trans (List.length_filter_le _ _) hBl
          have hstep : C = A.filter fun x => Pl.everyL (rest.take (k + 1)) x := by
            rw [← hC, HE.out, List.filter_filter]
            congr 1
            funext x
            rw [take_row HX.out, every_snoc]
            cases Pl.everyL (List.take k rest) x <;> cases h : r.contains x <;> simp_all
          obtain ⟨o3, c3, rfl⟩ := m3.shape
          have b12 := below_thru M2.out.1 HM.out.2
          have HN : Hid (Fresh w w3 (.slice o3 C.length c3) C ∧ Below w1.heap.size w1 w3) := ⟨m3.fresh.thru (below_thru b12 M1.out.2), below_thru b3 b12⟩
          have HS := Lib.hid hstep
          clear m3 b3 hC hstep b12
          go_wp2
          go_roundw
          case rel => exact ⟨k + 1, C, o3, c3, by omega, by go_num, rfl, hCl, HN, HS.out⟩
          case measure => simp [intOf]; omega
        · obtain rfl : rest.length = k := by omega
          go_wp2
          go_ret
          have := HE.out
          rw [List.take_length, ← HA.out] at this
          refine ⟨_, rfl, ?_, below_thru HM.out.2 M1.out.2⟩
          show Fresh w wr _ ((Pl.ofS r0).filter fun x => Pl.everyL rest x)
          rw [← this]
          exact HM.out.1
end Go.Proofs.Ytjceoigekifgdaa
