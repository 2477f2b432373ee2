/- The reference's Diff. -/
import Derived.Test.YtjceoigekifgdaaMem5
namespace Go.Proofs.Ytjceoigekifgdaa
open Go.ChangeShapes Go.WideShapes Go.ChangeAt Go.RowKit Go.Sort
set_option linter.unusedVariables false

/-- A slice of rows of texts. -/
def TLRow (w : World) (v : Value) (rs : List (List Tx)) : Prop := LRow w v (rs.map strs)
theorem TLRow.kept {w w' : World} {v : Value} {rs : List (List Tx)} (h : TLRow w v rs) (hb : Below w.heap.size w w') : TLRow w' v rs := LRow.kept h hb
theorem TLRow.open {w : World} {v : Value} {rs : List (List Tx)} (h : TLRow w v rs) : ∃ ao cp, v = .slice ao rs.length cp ∧ (rs = [] ∨ ∃ g off, ao = some ⟨g, off, none⟩ ∧ g < w.heap.size ∧ ∀ j r, rs[j]? = some r → ∃ x, w.cell? ⟨g, off + j, none⟩ = some x ∧ TRow w x r) := by
  obtain ⟨ao, cp, e, h⟩ := h
  rw [List.length_map] at e
  refine ⟨ao, cp, e, ?_⟩
  rcases h with h | ⟨g, off, h1, h2, h3⟩
  · left; simpa using h
  · exact .inr ⟨g, off, h1, h2, fun j r hr => h3 j _ (by simp [hr])⟩
theorem TLRow.laid {w : World} {g : Nat} {vs : List Value} {rs : List (List Tx)} {e : TypeId} {fz : Nat × Nat} {n cp : Nat} (h : w.heap[g]? = some (.cells vs.toArray e fz)) (hn : n = rs.length) (hl : vs.length = rs.length) (hv : ∀ (j : Nat) x r, vs[j]? = some x → rs[j]? = some r → TRow w x r) : TLRow w (.slice (some ⟨g, 0, none⟩) n cp) rs := by
  subst hn
  refine ⟨_, cp, by rw [List.length_map], .inr ⟨g, 0, rfl, (Array.getElem?_eq_some_iff.1 h).1, fun j r hr => ?_⟩⟩
  obtain ⟨t, ht, rfl⟩ : ∃ t, rs[j]? = some t ∧ strs t = r := by simpa using hr
  have hj : j < vs.length := by rw [hl]; exact (List.getElem?_eq_some_iff.1 ht).1
  refine ⟨vs[j], ?_, hv j _ t (List.getElem?_eq_getElem hj) ht⟩
  simp [World.cell?, h, hj]
theorem TRow.laid {w : World} {g : Nat} {ts : List Tx} {e : TypeId} {fz : Nat × Nat} {n cp : Nat} (h : w.heap[g]? = some (.cells (ts.map strV).toArray e fz)) (hn : n = ts.length) : TRow w (.slice (some ⟨g, 0, none⟩) n cp) ts := by
  subst hn
  refine ⟨_, cp, by rw [strs_length], .inr ⟨g, 0, rfl, (Array.getElem?_eq_some_iff.1 h).1, fun j x hx => ?_⟩⟩
  obtain ⟨t, ht, rfl⟩ : ∃ t, ts[j]? = some t ∧ str t = x := by simpa [strs] using hx
  simp [World.cell?, h, ht, strV]
theorem has_str (ts : List Tx) (v : Value) (x : Tx) (hn : ts.length ≤ 9223372036854775807) (w : World) (h : TRow w v ts) :
    Calls Try.prog 25 #[v, .string (str x)] w fun e w' => e = .returned (.bool (decide (x ∈ ts))) ∧ w' = w :=
  (has_any ts v (str x) hn w h).mono fun e w' h => ⟨h.1, h.2.symm⟩
def Pl.alone (rest : List (List Tx)) (x : Tx) : Bool := rest.any fun r => decide (x ∈ r)
def Pl.everyL (rest : List (List Tx)) (x : Tx) : Bool := rest.all fun r => decide (x ∈ r)
def Pl.diffs : List (List Tx) → List Tx
  | [] => []
  | r :: rest => (Pl.ofS r).filter fun x => !Pl.alone rest x
def Pl.inters : List (List Tx) → List Tx
  | [] => []
  | r :: rest => (Pl.ofS r).filter fun x => Pl.everyL rest x
theorem alone_snoc (a : List (List Tx)) (r : List Tx) (x : Tx) : Pl.alone (a ++ [r]) x = (Pl.alone a x || decide (x ∈ r)) := by simp [Pl.alone]
theorem every_snoc (a : List (List Tx)) (r : List Tx) (x : Tx) : Pl.everyL (a ++ [r]) x = (Pl.everyL a x && decide (x ∈ r)) := by simp [Pl.everyL]
theorem take_row {α : Type} {l : List α} {k : Nat} {x : α} (h : l[k]? = some x) : l.take (k + 1) = l.take k ++ [x] := by
  obtain ⟨h1, h2⟩ := List.getElem?_eq_some_iff.1 h
  rw [List.take_succ_eq_append_getElem h1, h2]
--DIFF
set_option maxHeartbeats 6400000 in
set_option maxRecDepth 100000 in
theorem refDiff_any (rs : List (List Tx)) (v : Value) (hr : ∀ r ∈ rs, r.length ≤ 8796093022000) (hn : rs.length ≤ 9223372036854775000) (w : World) (h : TLRow w v rs) :
    Calls Try.prog 31 #[v] w fun e w' => MadeEnd (Pl.diffs rs) w e w' := by
  obtain ⟨ao, cp, rfl, hh⟩ := h.open
  have H := Lib.hid hh
  clear h hh
  rcases rs with _ | ⟨r0, rest⟩
  · go_enter Try.func31, Try.ntmps31
    go_wp2
    go_ret
    exact ⟨_, rfl, Made.nil _ _, Below.refl _ _⟩
  · rcases H.out with h0 | ⟨g, off, rfl, hg, hc⟩
    · simp at h0
    obtain ⟨x0, hx0, ht0⟩ := hc 0 r0 rfl
    simp only [Nat.add_zero] at hx0
    have HT := Lib.hid ht0
    have HC := Lib.hid hc
    have HR := Lib.hid hr
    have hl0 := hr r0 (by simp)
    simp only [List.length_cons] at hn
    clear hc ht0 H hr
    rw [List.length_cons]
    obtain ⟨nR, hnR⟩ : ∃ nR, nR = rest.length + 1 := ⟨_, rfl⟩
    rw [← hnR] at hn ⊢
    have hz : ((nR : Int) == 0) = false := by rw [beq_eq_false_iff_ne]; omega
    have hz3 : (0 : Int) < (nR : Int) := by omega
    have HNR := Lib.hid hnR
    clear hnR
    go_enter Try.func31, Try.ntmps31
    go_wp2_with fail
    refine (refOf_any r0 x0 hl0 _ HT.out).mono ?_
    rintro e w1 ⟨a, rfl, m1, b1⟩
    obtain ⟨A, hA⟩ : ∃ A, Pl.ofS r0 = A := ⟨_, rfl⟩
    have hAl : A.length ≤ 8796093022000 := by rw [← hA]; exact Nat.le_trans (Pl.ofS_length _) hl0
    rw [hA] at m1
    obtain ⟨oa, ca, rfl, r1⟩ := m1.fresh.rowC
    have M1 := Lib.hid (And.intro m1 (And.intro b1 r1))
    have HA := Lib.hid hA
    clear m1 b1 r1 hA
    go_wp2
    go_loopw [3, 5] (fun o i wr => ∃ (k : Nat) (acc : List Tx) (oo : Option Addr) (oc : Nat), k ≤ A.length ∧ acc.length ≤ k ∧ i = .int .i64 k ∧ o = .slice oo acc.length oc ∧ Hid (Made w1 wr (.slice oo acc.length oc) acc ∧ Below w1.heap.size w1 wr) ∧ Hid (acc = (A.take k).filter fun x => !Pl.alone rest x)) (fun _ i _ => A.length - (intOf i).toNat)
    case atStart => exact ⟨0, [], none, 0, Nat.zero_le _, Nat.le_refl _, rfl, rfl, ⟨Made.nil _ _, Below.refl _ _⟩, by show _ = _; simp⟩
    case round =>
      obtain ⟨k, acc, oo, oc, hk, hacc, rfl, rfl, HM, HE⟩ := hrel
      by_cases hlt : k < A.length
      · obtain ⟨x, hx⟩ : ∃ x, A[k]? = some x := ⟨A[k], List.getElem?_eq_getElem hlt⟩
        rcases M1.out.2.2.2.2 with h0 | ⟨ga, offa, rfl, hga, hca⟩
        · rw [h0] at hlt; simp at hlt
        have hxa := hca k x hx
        have HX := Lib.hid hx
        have hxr : ∀ N, (wr.drewN N).cell? ⟨ga, offa + k, none⟩ = some (.string (str x)) := fun N => ((below_drewN HM.out.2 N).cell (p := ⟨ga, offa + k, none⟩) hga).trans hxa
        have hkI : (k : Int) < (A.length : Int) := by omega
        have hk0 : (0 : Int) ≤ (k : Int) := by omega
        clear hca hx hxa
        obtain ⟨wo, rfl⟩ : ∃ wo : World, wo = wr := ⟨_, rfl⟩
        go_wp2
        go_loopw [6, 7] (fun ot i w2 => ∃ (m : Nat) (b : Bool), 0 < m ∧ m ≤ nR ∧ i = .int .i64 (m : Int) ∧ ot = .bool b ∧ Hid (Pl.alone (rest.take (m - 1)) x = b) ∧ Hid (∃ n, w2 = wo.drewN n)) (fun _ i _ => nR - (intOf i).toNat)
        case atStart => exact ⟨1, _, by omega, by omega, rfl, rfl, by show _ = _; rfl, ⟨0, rfl⟩⟩
        case round =>
          obtain ⟨m, b, hm0, hm, rfl, rfl, HB, HW⟩ := hrel
          obtain ⟨n, rfl⟩ := HW.out
          clear HW
          by_cases hmt : m < nR
          · obtain ⟨p, hp⟩ : ∃ p, m = p + 1 := ⟨m - 1, by omega⟩
            obtain ⟨r, hr⟩ : ∃ r, rest[p]? = some r := ⟨rest[p]'(by have := HNR.out; omega), List.getElem?_eq_getElem _⟩
            obtain ⟨xv, hxv, htv⟩ := HC.out m r (by rw [hp]; simpa using hr)
            have hrl := HR.out r (List.mem_cons_of_mem _ (List.mem_of_getElem? hr))
            have bw : ∀ N, Below w.heap.size w (wo.drewN N) := fun N => below_thru (below_drewN HM.out.2 N) M1.out.2.1
            have hcv : wo.cell? ⟨g, off + m, none⟩ = some xv := ((bw 0).cell (p := ⟨g, off + m, none⟩) hg).trans hxv
            have hcx : wo.cell? ⟨ga, offa + k, none⟩ = some (.string (str x)) := hxr 0
            have TV : Hid (∀ N, TRow (wo.drewN N) xv r) := fun N => htv.kept (bw N)
            have HN := Lib.hid (And.intro hr hp)
            have hmI : (m : Int) < (nR : Int) := by omega
            have hmI0 : (0 : Int) ≤ (m : Int) := by omega
            have HS : Hid (∀ b', (b || decide (x ∈ r)) = b' → Pl.alone (rest.take (m + 1 - 1)) x = b') := fun b' hb' => by
              have := HB.out
              rw [hp] at this ⊢
              rw [Nat.add_sub_cancel] at this
              rw [show p + 1 + 1 - 1 = p + 1 by omega, take_row hr, alone_snoc, this, hb']
            clear hr hxv htv hp
            cases b
            · go_wp2_with fail
              go_quiet (first | (go_at_call 25; exact (has_str r xv x (by omega) _ (TV.out _)).mono fun e w' h => ⟨h.1, _, h.2⟩))
              go_wp2
              go_roundw
              case rel => exact ⟨m + 1, _, by omega, by omega, by go_num, rfl, HS.out _ rfl, ⟨_, by first | rfl | rw [drewN_add]⟩⟩
              case measure => simp [intOf]; omega
            · go_wp2_with fail
              go_quiet (fail)
              go_wp2
              go_roundw
              case rel => exact ⟨m + 1, _, by omega, by omega, by go_num, rfl, HS.out _ rfl, ⟨_, by first | rfl | rw [drewN_add]⟩⟩
              case measure => simp [intOf]; omega
          · obtain rfl : nR = m := by omega
            have hB := HB.out
            rw [HNR.out, Nat.add_sub_cancel, List.take_length] at hB
            have HB2 := Lib.hid hB
            clear hB HB
            have MQ : ∀ N, Hid (Made w1 (wo.drewN N) (.slice oo acc.length oc) acc ∧ Below w1.heap.size w1 (wo.drewN N)) := fun N => ⟨HM.out.1.drewN N, below_drewN HM.out.2 N⟩
            have hcx := hxr n
            have hstep : (A.take (k + 1)).filter (fun x => !Pl.alone rest x) = acc ++ if b then [] else [x] := by
              rw [take_row HX.out, List.filter_append, ← HE.out, List.filter_cons, HB2.out]
              cases b <;> rfl
            have HS := Lib.hid hstep
            clear hstep
            cases b
            · skip
              go_wp2_with (at_builtin; refine wpList_append_one _ rfl _ _ 22 rfl w1.heap.size 9 (.string ⟨#[]⟩) 16 Try.underlying22 infoS rfl _ acc.length (acc.map strV) rfl (by exact (MQ _).out.1.owns) (.string (str x)) rfl rfl (by simp only [maxLen]; omega) (by omega) (by exact (MQ _).out.2.size) ?_; intro v5 w5 hown5 hg5 hbl; have hb5 := hbl w1 w1.heap.size (by exact (MQ _).out.2) (Nat.le_refl _); clear hbl hg5; obtain ⟨a5, c5, rfl, HM5⟩ := grownT hown5 hb5; clear hown5 hb5)
              go_wp2
              go_roundw
              case rel => exact ⟨k + 1, acc ++ [x], a5, c5, by omega, by simp; omega, by go_num, by simp, by simpa using HM5, by show _ = _; rw [HS.out]; rfl⟩
              case measure => simp [intOf]; omega
            · go_wp2
              go_roundw
              case rel => exact ⟨k + 1, acc, oo, oc, by omega, by omega, by go_num, rfl, MQ _, by show _ = _; rw [HS.out]; simp⟩
              case measure => simp [intOf]; omega
      · obtain rfl : A.length = k := by omega
        go_wp2
        go_ret
        have := HE.out
        rw [List.take_length, ← HA.out] at this
        refine ⟨_, rfl, ?_, below_thru HM.out.2 M1.out.2.1⟩
        show Made w wr _ ((Pl.ofS r0).filter fun x => !Pl.alone rest x)
        rw [← this]
        exact HM.out.1.later M1.out.2.1.size
--END
end Go.Proofs.Ytjceoigekifgdaa
