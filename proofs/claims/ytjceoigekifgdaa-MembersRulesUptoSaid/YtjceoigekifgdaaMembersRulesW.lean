/- The walk of MembersRules. -/
import Derived.Test.YtjceoigekifgdaaMem13
import Derived.Test.YtjceoigekifgdaaMembersAddsW
namespace Go.Proofs.Ytjceoigekifgdaa
open Go.ChangeShapes Go.WideShapes Go.ChangeAt Go.RowKit Go.Sort
set_option linter.unusedVariables false

theorem TLC.laid {W : World} {g : Nat} {vs : List Value} {rs : List (List Tx)} {e : TypeId} {fz : Nat × Nat} (h : W.heap[g]? = some (.cells vs.toArray e fz)) (hl : vs.length = rs.length) (hv : ∀ (j : Nat) x r, vs[j]? = some x → rs[j]? = some r → TRow W x r) : TLC W (some ⟨g, 0, none⟩) rs.length rs := by
  refine ⟨Nat.le_refl _, .inr ⟨g, 0, rfl, (Array.getElem?_eq_some_iff.1 h).1, fun j r hr => ?_⟩⟩
  have hj : j < vs.length := by rw [hl]; exact (List.getElem?_eq_some_iff.1 hr).1
  refine ⟨vs[j], ?_, hv j _ r (List.getElem?_eq_getElem hj) hr⟩
  simp [World.cell?, h, hj]
theorem laidN {w : World} (vs : List Value) (rs : List (List Tx)) (h : ∀ (j : Nat) x r, vs[j]? = some x → rs[j]? = some r → TRow w x r) (hl : vs.length = rs.length) (ob : Obj) (ho : ob = .cells vs.toArray 22 (0, 0)) : TLC (w.alloc ob) (some ⟨w.heap.size, 0, none⟩) rs.length rs := by
  subst ho
  have hb := (Below.refl w.heap.size w).alloc (Nat.le_refl _) (.cells vs.toArray 22 (0, 0))
  exact TLC.laid (heap_alloc_new w _) hl fun j x r hx hr => (h j x r hx hr).kept hb
theorem validT (ts : List Tx) (hv : Pl.valid ts = true) (v : Value) (hn : ts.length ≤ 9223372036854775000) (w : World) (h : TRow w v ts) :
    Calls Try.prog 22 #[v] w fun e w' => e = .returned (.bool true) ∧ ∃ n, w' = w.drewN n :=
  (valid_any ts v hn w h).mono fun e w' h => ⟨by rw [h.1, hv], h.2⟩
theorem rows2 {w : World} {x1 x2 : Value} {a b : List Tx} (h1 : TRow w x1 a) (h2 : TRow w x2 b) : ∀ (j : Nat) x r, [x1, x2][j]? = some x → [a, b][j]? = some r → TRow w x r := by
  intro j x r hx hr
  rcases j with _ | _ | j
  · simp at hx hr; subst hx; subst hr; exact h1
  · simp at hx hr; subst hx; subst hr; exact h2
  · simp at hx
theorem rows3 {w : World} {x1 x2 x3 : Value} {a b c : List Tx} (h1 : TRow w x1 a) (h2 : TRow w x2 b) (h3 : TRow w x3 c) : ∀ (j : Nat) x r, [x1, x2, x3][j]? = some x → [a, b, c][j]? = some r → TRow w x r := by
  intro j x r hx hr
  rcases j with _ | _ | _ | j
  · simp at hx hr; subst hx; subst hr; exact h1
  · simp at hx hr; subst hx; subst hr; exact h2
  · simp at hx hr; subst hx; subst hr; exact h3
  · simp at hx
theorem part_len {α : Type} (p : α → Bool) (l : List α) : (l.filter fun x => !p x).length + (l.filter p).length = l.length := by
  induction l with
  | nil => rfl
  | cons x r ih => cases h : p x <;> simp [h] <;> omega
theorem rising_inters (rs : List (List Tx)) : Pl.Rising (Pl.inters rs) := by
  rcases rs with _ | ⟨r, rest⟩
  · exact List.Pairwise.nil
  · exact Pl.rising_sub List.filter_sublist (Pl.rising_ofS r)
theorem rising_diffs (rs : List (List Tx)) : Pl.Rising (Pl.diffs rs) := by
  rcases rs with _ | ⟨r, rest⟩
  · exact List.Pairwise.nil
  · exact Pl.rising_sub List.filter_sublist (Pl.rising_ofS r)
theorem mem_inters2 (a b : List Tx) (x : Tx) : x ∈ Pl.inters [a, b] ↔ x ∈ a ∧ x ∈ b := by simp [Pl.inters, Pl.everyL, Pl.mem_ofS]
theorem mem_inters3 (a b c : List Tx) (x : Tx) : x ∈ Pl.inters [a, b, c] ↔ x ∈ a ∧ x ∈ b ∧ x ∈ c := by simp [Pl.inters, Pl.everyL, Pl.mem_ofS]
theorem mem_diffs2 (a b : List Tx) (x : Tx) : x ∈ Pl.diffs [a, b] ↔ x ∈ a ∧ x ∉ b := by simp [Pl.diffs, Pl.alone, Pl.mem_ofS]
theorem unions_turn (a b c : List Tx) : Pl.unions [c, b, a] = Pl.unions [a, b, c] := Pl.ofS_congr fun x => by simp [or_comm, or_assoc]
theorem inters_turn (a b c : List Tx) : Pl.inters [c, a, b] = Pl.inters [a, b, c] := Pl.rising_ext (rising_inters _) (rising_inters _) fun x => by rw [mem_inters3, mem_inters3]; exact ⟨fun ⟨h1, h2, h3⟩ => ⟨h2, h3, h1⟩, fun ⟨h1, h2, h3⟩ => ⟨h3, h1, h2⟩⟩
theorem inters_none (a b : List Tx) : Pl.inters [Pl.diffs [a, b], Pl.inters [a, b]] = [] := List.eq_nil_iff_forall_not_mem.2 fun x hx => by
  rw [mem_inters2, mem_diffs2, mem_inters2] at hx
  exact hx.1.2 hx.2.2
theorem unions_parts (a b : List Tx) : Pl.unions [Pl.diffs [a, b], Pl.inters [a, b]] = Pl.ofS a := Pl.ofS_congr fun x => by
  simp only [List.flatten_cons, List.flatten_nil, List.append_nil, List.mem_append, mem_diffs2, mem_inters2]
  by_cases h : x ∈ b <;> simp [h]
theorem parts_len (a b : List Tx) : (Pl.diffs [a, b]).length + (Pl.inters [a, b]).length = (Pl.ofS a).length := by
  have := part_len (fun x => decide (x ∈ b)) (Pl.ofS a)
  simpa [Pl.diffs, Pl.inters, Pl.alone, Pl.everyL] using this
theorem minus_plus (a b : List Tx) : Pl.minus (Pl.plus a b) b = Pl.diffs [a, b] := Pl.rising_ext (Pl.rising_sub List.filter_sublist (Pl.rising_ofS _)) (rising_diffs _) fun x => by
  rw [mem_diffs2]
  simp only [Pl.minus, Pl.plus, List.mem_filter, Pl.mem_ofS, List.mem_append]
  by_cases h : x ∈ b <;> simp [h]
theorem minusN_plus (a b : List Tx) : minusN (Pl.plus a b) b = ((Pl.ofS b).length : Int) := by
  unfold minusN Pl.plus
  have h1 := part_len (fun x => decide (x ∈ b)) (Pl.ofS (Pl.ofS (a ++ b)))
  have h2 : (Pl.ofS (Pl.ofS (a ++ b))).filter (fun x => decide (x ∈ b)) = Pl.ofS b := Pl.ofS_unique (Pl.rising_sub List.filter_sublist (Pl.rising_ofS _)) fun x => by
    simp only [List.mem_filter, Pl.mem_ofS, List.mem_append, decide_eq_true_eq]
    exact ⟨fun h => h.2, fun h => ⟨.inr h, h⟩⟩
  rw [h2] at h1
  have h3 : ((Pl.ofS (Pl.ofS (a ++ b))).filter fun x => !b.contains x) = (Pl.ofS (Pl.ofS (a ++ b))).filter fun x => !decide (x ∈ b) := by simp
  rw [h3]
  omega
theorem three_le {a b c : List Tx} (h : a.length + b.length + c.length ≤ 1048576) : ∀ r ∈ [a, b, c], r.length ≤ 1048576 := by
  intro r hr; simp at hr; rcases hr with rfl | rfl | rfl <;> omega
theorem two_le {a b : List Tx} (h1 : a.length ≤ 1048576) (h2 : b.length ≤ 1048576) : ∀ r ∈ [a, b], r.length ≤ 1048576 := by
  intro r hr; simp at hr; rcases hr with rfl | rfl <;> omega
set_option maxHeartbeats 1600000 in
set_option maxRecDepth 100000 in
theorem rules_up (v1 v2 v3 : Value) (a b c : List Tx) (hs : a.length + b.length + c.length ≤ 1048576) (w : World) (h1 : TRow w v1 a) (h2 : TRow w v2 b) (h3 : TRow w v3 c) :
    Calls Try.prog 9 #[v1, v2, v3] w fun e w' => e = .returned (.bool true) ∧ Below w.heap.size w w' := by
  obtain ⟨a1, c1, e1⟩ := h1.shape
  obtain ⟨a2, c2, e2⟩ := h2.shape
  obtain ⟨a3, c3, e3⟩ := h3.shape
  subst e1
  subst e2
  subst e3
  have H := Lib.hid (And.intro h1 (And.intro h2 h3))
  clear h1 h2 h3
  obtain ⟨U, hU⟩ : ∃ U, Pl.unions [a, b, c] = U := ⟨_, rfl⟩
  obtain ⟨I, hI⟩ : ∃ I, Pl.inters [a, b, c] = I := ⟨_, rfl⟩
  obtain ⟨AL, hAL⟩ : ∃ AL, Pl.diffs [a, b] = AL := ⟨_, rfl⟩
  obtain ⟨BO, hBO⟩ : ∃ BO, Pl.inters [a, b] = BO := ⟨_, rfl⟩
  obtain ⟨SA, hSA⟩ : ∃ SA, Pl.ofS a = SA := ⟨_, rfl⟩
  obtain ⟨SB, hSB⟩ : ∃ SB, Pl.ofS b = SB := ⟨_, rfl⟩
  obtain ⟨L, hL⟩ : ∃ L, Pl.plus a b = L := ⟨_, rfl⟩
  obtain ⟨N, hN⟩ : ∃ N, plusN a b = N := ⟨_, rfl⟩
  have lU : U.length ≤ 1048576 := by rw [← hU]; exact Nat.le_trans (Pl.ofS_length _) (by simp; omega)
  have lI : I.length ≤ 1048576 := by rw [← hI]; exact Nat.le_trans (inters_length _) (by simp; omega)
  have lS : SA.length ≤ 1048576 := by rw [← hSA]; exact Nat.le_trans (Pl.ofS_length _) (by omega)
  have lT : SB.length ≤ 1048576 := by rw [← hSB]; exact Nat.le_trans (Pl.ofS_length _) (by omega)
  have lP : AL.length + BO.length = SA.length := by rw [← hAL, ← hBO, ← hSA]; exact parts_len a b
  have lL : L.length ≤ 1048576 := by rw [← hL]; have := plus_length a b; omega
  have eN : N = (L.length : Int) - (SA.length : Int) := by rw [← hN, ← hL, ← hSA]; rfl
  have HEN := Lib.hid eN
  clear eN
  have hNone : Pl.inters [AL, BO] = [] := by rw [← hAL, ← hBO]; exact inters_none a b
  have hUni : Pl.unions [AL, BO] = SA := by rw [← hAL, ← hBO, ← hSA]; exact unions_parts a b
  have hP : Pl.minus L b = AL := by rw [← hL, ← hAL]; exact minus_plus a b
  have hM : minusN L b = (SB.length : Int) := by rw [← hL, ← hSB]; exact minusN_plus a b
  have vU : Pl.valid U = true := by rw [← hU]; exact valid_rising (Pl.rising_ofS _)
  have vI : Pl.valid I = true := by rw [← hI]; exact valid_rising (rising_inters _)
  have hU2 : Pl.unions [c, b, a] = U := (unions_turn a b c).trans hU
  have hI2 : Pl.inters [c, a, b] = I := (inters_turn a b c).trans hI
  have inL : ∀ x ∈ b, x ∈ L := fun x hx => by rw [← hL]; exact Pl.mem_ofS.2 (List.mem_append.2 (.inr hx))
  have outP : ∀ x ∈ b, x ∉ AL := fun x hx h => by rw [← hAL] at h; exact ((mem_diffs2 a b x).1 h).2 hx
  have E := Lib.hid (And.intro hU (And.intro hU2 (And.intro hI (And.intro hI2 (And.intro hAL hBO)))))
  have E2 := Lib.hid (And.intro hSA (And.intro hSB (And.intro hL (And.intro hN (And.intro hNone (And.intro hUni (And.intro hP hM)))))))
  have E3 := Lib.hid (And.intro vU (And.intro vI (And.intro inL outP)))
  clear hU hU2 hI hI2 hAL hBO hSA hSB hL hN hNone hUni hP hM vU vI inL outP
  go_enter Try.func9, Try.ntmps9
  go_wp2_with fail
  refine (awake_any _).mono ?_
  rintro e w0 ⟨rfl, b0⟩
  have W0 := Lib.hid b0
  clear b0
  have Ka : Hid (∀ w', Below w0.heap.size w0 w' → TRow w' (.slice a1 a.length c1) a) := fun w' hb => H.out.1.kept (below_thru hb W0.out)
  have Kb : Hid (∀ w', Below w0.heap.size w0 w' → TRow w' (.slice a2 b.length c2) b) := fun w' hb => H.out.2.1.kept (below_thru hb W0.out)
  have Kc : Hid (∀ w', Below w0.heap.size w0 w' → TRow w' (.slice a3 c.length c3) c) := fun w' hb => H.out.2.2.kept (below_thru hb W0.out)
  have B0 : Hid (Below w0.heap.size w0 w0) := Below.refl _ _
  clear H
  go_wp2_with fail
  refine (mUnion_any [a, b, c] _ (by simp; omega) (by simp) _ (laidN _ [a, b, c] (rows3 (Ka.out _ (B0.out)) (Kb.out _ (B0.out)) (Kc.out _ (B0.out))) rfl _ rfl).tl).mono ?_
  rintro e w1 ⟨x1, rfl, n1, b1⟩
  rw [E.out.1] at n1
  obtain ⟨o1, d1, rfl⟩ := n1.shape
  have B1 : Hid (Below w0.heap.size w0 w1) := below_thru b1 (below_alloc B0.out _)
  have D1 : Hid (Below w0.heap.size w0 w1) := below_thru b1 ((Below.refl _ _).alloc (Nat.le_refl _) _)
  have RU : Hid (TRow w1 (.slice o1 (U).length d1) (U)) := n1.trow
  clear n1 b1
  have RU1 := RU
  go_wp2_with fail
  refine (mUnion_any [c, b, a] _ (by simp; omega) (by simp) _ (laidN _ [c, b, a] (rows3 (Kc.out _ (B1.out)) (Kb.out _ (B1.out)) (Ka.out _ (B1.out))) rfl _ rfl).tl).mono ?_
  rintro e w2 ⟨x2, rfl, n2, b2⟩
  rw [E.out.2.1] at n2
  obtain ⟨o2, d2, rfl⟩ := n2.shape
  have B2 : Hid (Below w0.heap.size w0 w2) := below_thru b2 (below_alloc B1.out _)
  have D2 : Hid (Below w1.heap.size w1 w2) := below_thru b2 ((Below.refl _ _).alloc (Nat.le_refl _) _)
  have RU : Hid (TRow w2 (.slice o2 (U).length d2) (U)) := n2.trow
  have RU1 := Lib.hid (RU1.out.kept D2.out)
  clear n2 b2
  go_wp2_with fail
  refine (mInter_any [a, b, c] _ _ (three_le hs) (by simp) _ (laidN _ [a, b, c] (rows3 (Ka.out _ (B2.out)) (Kb.out _ (B2.out)) (Kc.out _ (B2.out))) rfl _ rfl)).mono ?_
  rintro e w3 ⟨x3, rfl, n3, b3⟩
  rw [E.out.2.2.1] at n3
  obtain ⟨o3, d3, rfl⟩ := n3.shape
  have B3 : Hid (Below w0.heap.size w0 w3) := below_thru b3 (below_alloc B2.out _)
  have D3 : Hid (Below w2.heap.size w2 w3) := below_thru b3 ((Below.refl _ _).alloc (Nat.le_refl _) _)
  have RI : Hid (TRow w3 (.slice o3 (I).length d3) (I)) := n3.trow
  have RU1 := Lib.hid (RU1.out.kept D3.out)
  have RU := Lib.hid (RU.out.kept D3.out)
  clear n3 b3
  have RI1 := RI
  go_wp2_with fail
  refine (mInter_any [c, a, b] _ _ (three_le (by omega)) (by simp) _ (laidN _ [c, a, b] (rows3 (Kc.out _ (B3.out)) (Ka.out _ (B3.out)) (Kb.out _ (B3.out))) rfl _ rfl)).mono ?_
  rintro e w4 ⟨x4, rfl, n4, b4⟩
  rw [E.out.2.2.2.1] at n4
  obtain ⟨o4, d4, rfl⟩ := n4.shape
  have B4 : Hid (Below w0.heap.size w0 w4) := below_thru b4 (below_alloc B3.out _)
  have D4 : Hid (Below w3.heap.size w3 w4) := below_thru b4 ((Below.refl _ _).alloc (Nat.le_refl _) _)
  have RI : Hid (TRow w4 (.slice o4 (I).length d4) (I)) := n4.trow
  have RU1 := Lib.hid (RU1.out.kept D4.out)
  have RU := Lib.hid (RU.out.kept D4.out)
  have RI1 := Lib.hid (RI1.out.kept D4.out)
  clear n4 b4
  go_wp2_with fail
  refine (same_true U _ _ (by omega) _ RU1.out RU.out).mono ?_
  rintro e w5 ⟨rfl, m5, rfl⟩
  have D5 : Hid (Below w4.heap.size w4 (w4.drewN m5)) := below_drewN (Below.refl _ _) m5
  obtain ⟨w5, h5⟩ : ∃ w5, w4.drewN m5 = w5 := ⟨_, rfl⟩
  rw [h5] at D5 ⊢
  clear h5
  have B5 : Hid (Below w0.heap.size w0 w5) := below_thru D5.out B4.out
  have RU1 := Lib.hid (RU1.out.kept D5.out)
  have RU := Lib.hid (RU.out.kept D5.out)
  have RI1 := Lib.hid (RI1.out.kept D5.out)
  have RI := Lib.hid (RI.out.kept D5.out)
  clear RU
  go_wp2_with fail
  refine (same_true I _ _ (by omega) _ RI1.out RI.out).mono ?_
  rintro e w6 ⟨rfl, m6, rfl⟩
  have D6 : Hid (Below w5.heap.size w5 (w5.drewN m6)) := below_drewN (Below.refl _ _) m6
  obtain ⟨w6, h6⟩ : ∃ w6, w5.drewN m6 = w6 := ⟨_, rfl⟩
  rw [h6] at D6 ⊢
  clear h6
  have B6 : Hid (Below w0.heap.size w0 w6) := below_thru D6.out B5.out
  have RU1 := Lib.hid (RU1.out.kept D6.out)
  have RI1 := Lib.hid (RI1.out.kept D6.out)
  have RI := Lib.hid (RI.out.kept D6.out)
  clear RI
  have hv1 := E3.out.1
  have hv2 := E3.out.2.1
  go_wp2_with fail
  refine (validT U hv1 _ (by omega) _ RU1.out).mono ?_
  rintro e w7 ⟨rfl, m7, rfl⟩
  have D7 : Hid (Below w6.heap.size w6 (w6.drewN m7)) := below_drewN (Below.refl _ _) m7
  obtain ⟨w7, h7⟩ : ∃ w7, w6.drewN m7 = w7 := ⟨_, rfl⟩
  rw [h7] at D7 ⊢
  clear h7
  have B7 : Hid (Below w0.heap.size w0 w7) := below_thru D7.out B6.out
  have RU1 := Lib.hid (RU1.out.kept D7.out)
  have RI1 := Lib.hid (RI1.out.kept D7.out)
  clear RU1
  go_wp2_with fail
  refine (validT I hv2 _ (by omega) _ RI1.out).mono ?_
  rintro e w8 ⟨rfl, m8, rfl⟩
  have D8 : Hid (Below w7.heap.size w7 (w7.drewN m8)) := below_drewN (Below.refl _ _) m8
  obtain ⟨w8, h8⟩ : ∃ w8, w7.drewN m8 = w8 := ⟨_, rfl⟩
  rw [h8] at D8 ⊢
  clear h8
  have B8 : Hid (Below w0.heap.size w0 w8) := below_thru D8.out B7.out
  have RI1 := Lib.hid (RI1.out.kept D8.out)
  clear RI1 hv1 hv2
  go_wp2_with fail
  refine (mDiff_any [a, b] _ _ (two_le (by omega) (by omega)) (by simp) _ (laidN _ [a, b] (rows2 (Ka.out _ (B8.out)) (Kb.out _ (B8.out))) rfl _ rfl)).mono ?_
  rintro e w9 ⟨x9, rfl, n9, b9⟩
  rw [E.out.2.2.2.2.1] at n9
  obtain ⟨o9, d9, rfl⟩ := n9.shape
  have B9 : Hid (Below w0.heap.size w0 w9) := below_thru b9 (below_alloc B8.out _)
  have D9 : Hid (Below w8.heap.size w8 w9) := below_thru b9 ((Below.refl _ _).alloc (Nat.le_refl _) _)
  have RAL : Hid (TRow w9 (.slice o9 (AL).length d9) (AL)) := n9.trow
  clear n9 b9
  go_wp2_with fail
  refine (mInter_any [a, b] _ _ (two_le (by omega) (by omega)) (by simp) _ (laidN _ [a, b] (rows2 (Ka.out _ (B9.out)) (Kb.out _ (B9.out))) rfl _ rfl)).mono ?_
  rintro e w10 ⟨x10, rfl, n10, b10⟩
  rw [E.out.2.2.2.2.2] at n10
  obtain ⟨o10, d10, rfl⟩ := n10.shape
  have B10 : Hid (Below w0.heap.size w0 w10) := below_thru b10 (below_alloc B9.out _)
  have D10 : Hid (Below w9.heap.size w9 w10) := below_thru b10 ((Below.refl _ _).alloc (Nat.le_refl _) _)
  have RBO : Hid (TRow w10 (.slice o10 (BO).length d10) (BO)) := n10.trow
  have RAL := Lib.hid (RAL.out.kept D10.out)
  clear n10 b10
  go_wp2_with fail
  refine (mInter_any [AL, BO] _ _ (two_le (by omega) (by omega)) (by simp) _ (laidN _ [AL, BO] (rows2 RAL.out RBO.out) rfl _ rfl)).mono ?_
  rintro e w11 ⟨x11, rfl, n11, b11⟩
  rw [E2.out.2.2.2.2.1] at n11
  obtain ⟨o11, d11, rfl⟩ := n11.shape
  have B11 : Hid (Below w0.heap.size w0 w11) := below_thru b11 (below_alloc B10.out _)
  have D11 : Hid (Below w10.heap.size w10 w11) := below_thru b11 ((Below.refl _ _).alloc (Nat.le_refl _) _)
  have RAL := Lib.hid (RAL.out.kept D11.out)
  have RBO := Lib.hid (RBO.out.kept D11.out)
  clear n11 b11
  go_wp2_with fail
  refine (mUnion_any [AL, BO] _ (by simp; omega) (by simp) _ (laidN _ [AL, BO] (rows2 RAL.out RBO.out) rfl _ rfl).tl).mono ?_
  rintro e w12 ⟨x12, rfl, n12, b12⟩
  rw [E2.out.2.2.2.2.2.1] at n12
  obtain ⟨o12, d12, rfl⟩ := n12.shape
  have B12 : Hid (Below w0.heap.size w0 w12) := below_thru b12 (below_alloc B11.out _)
  have D12 : Hid (Below w11.heap.size w11 w12) := below_thru b12 ((Below.refl _ _).alloc (Nat.le_refl _) _)
  have RSA : Hid (TRow w12 (.slice o12 (SA).length d12) (SA)) := n12.trow
  have RAL := Lib.hid (RAL.out.kept D12.out)
  have RBO := Lib.hid (RBO.out.kept D12.out)
  clear n12 b12
  have RS1 := RSA
  go_wp2_with fail
  refine (mOf_any a _ (by omega) _ (Ka.out _ (B12.out))).mono ?_
  rintro e w13 ⟨x13, rfl, n13, b13⟩
  rw [E2.out.1] at n13
  obtain ⟨o13, d13, rfl⟩ := n13.shape
  have B13 : Hid (Below w0.heap.size w0 w13) := below_thru b13 B12.out
  have D13 : Hid (Below w12.heap.size w12 w13) := b13
  have RSA : Hid (TRow w13 (.slice o13 (SA).length d13) (SA)) := n13.trow
  have RAL := Lib.hid (RAL.out.kept D13.out)
  have RBO := Lib.hid (RBO.out.kept D13.out)
  have RS1 := Lib.hid (RS1.out.kept D13.out)
  clear n13 b13
  go_wp2_with fail
  refine (same_true SA _ _ (by omega) _ RS1.out RSA.out).mono ?_
  rintro e w14 ⟨rfl, m14, rfl⟩
  have D14 : Hid (Below w13.heap.size w13 (w13.drewN m14)) := below_drewN (Below.refl _ _) m14
  obtain ⟨w14, h14⟩ : ∃ w14, w13.drewN m14 = w14 := ⟨_, rfl⟩
  rw [h14] at D14 ⊢
  clear h14
  have B14 : Hid (Below w0.heap.size w0 w14) := below_thru D14.out B13.out
  have RAL := Lib.hid (RAL.out.kept D14.out)
  have RBO := Lib.hid (RBO.out.kept D14.out)
  have RS1 := Lib.hid (RS1.out.kept D14.out)
  have RSA := Lib.hid (RSA.out.kept D14.out)
  clear RS1 RSA
  have qs : (AL.length : Int) + (BO.length : Int) = (SA.length : Int) := by omega
  go_wp2_with fail
  refine (mOf_any a _ (by omega) _ (Ka.out _ (B14.out))).mono ?_
  rintro e w15 ⟨x15, rfl, n15, b15⟩
  rw [E2.out.1] at n15
  obtain ⟨o15, d15, rfl⟩ := n15.shape
  have B15 : Hid (Below w0.heap.size w0 w15) := below_thru b15 B14.out
  have D15 : Hid (Below w14.heap.size w14 w15) := b15
  have RSA : Hid (TRow w15 (.slice o15 (SA).length d15) (SA)) := n15.trow
  have RAL := Lib.hid (RAL.out.kept D15.out)
  have RBO := Lib.hid (RBO.out.kept D15.out)
  clear n15 b15
  clear RSA
  go_wp2_with fail
  refine (addC a b _ _ (by omega) (by omega) _ (Ka.out _ B15.out) (Kb.out _ B15.out)).mono ?_
  rintro e w16 ⟨x16, rfl, n16, b16⟩
  rw [E2.out.2.2.1] at n16
  rw [E2.out.2.2.2.1]
  obtain ⟨o16, d16, rfl⟩ := n16.shape
  have B16 : Hid (Below w0.heap.size w0 w16) := below_thru b16 B15.out
  have D16 : Hid (Below w15.heap.size w15 w16) := b16
  have RL : Hid (TRow w16 (.slice o16 (L).length d16) (L)) := n16.trow
  have RAL := Lib.hid (RAL.out.kept D16.out)
  have RBO := Lib.hid (RBO.out.kept D16.out)
  clear n16 b16
  go_wp2_with fail
  refine (removeC L b _ _ (by omega) (by omega) _ RL.out (Kb.out _ B16.out)).mono ?_
  rintro e w17 ⟨x17, rfl, n17, b17⟩
  rw [E2.out.2.2.2.2.2.2.1] at n17
  rw [E2.out.2.2.2.2.2.2.2]
  obtain ⟨o17, d17, rfl⟩ := n17.shape
  have B17 : Hid (Below w0.heap.size w0 w17) := below_thru b17 B16.out
  have D17 : Hid (Below w16.heap.size w16 w17) := b17
  have RP : Hid (TRow w17 (.slice o17 (AL).length d17) (AL)) := n17.trow
  have RAL := Lib.hid (RAL.out.kept D17.out)
  have RBO := Lib.hid (RBO.out.kept D17.out)
  have RL := Lib.hid (RL.out.kept D17.out)
  clear n17 b17
  go_wp2_with fail
  refine (mOf_any a _ (by omega) _ (Ka.out _ (B17.out))).mono ?_
  rintro e w18 ⟨x18, rfl, n18, b18⟩
  rw [E2.out.1] at n18
  obtain ⟨o18, d18, rfl⟩ := n18.shape
  have B18 : Hid (Below w0.heap.size w0 w18) := below_thru b18 B17.out
  have D18 : Hid (Below w17.heap.size w17 w18) := b18
  have RSA : Hid (TRow w18 (.slice o18 (SA).length d18) (SA)) := n18.trow
  have RAL := Lib.hid (RAL.out.kept D18.out)
  have RBO := Lib.hid (RBO.out.kept D18.out)
  have RL := Lib.hid (RL.out.kept D18.out)
  have RP := Lib.hid (RP.out.kept D18.out)
  clear n18 b18
  clear RSA
  have qn : (SA.length : Int) + N = (L.length : Int) := by have := HEN.out; omega
  go_wp2_with fail
  refine (same_true AL _ _ (by omega) _ RP.out RAL.out).mono ?_
  rintro e w19 ⟨rfl, m19, rfl⟩
  have D19 : Hid (Below w18.heap.size w18 (w18.drewN m19)) := below_drewN (Below.refl _ _) m19
  obtain ⟨w19, h19⟩ : ∃ w19, w18.drewN m19 = w19 := ⟨_, rfl⟩
  rw [h19] at D19 ⊢
  clear h19
  have B19 : Hid (Below w0.heap.size w0 w19) := below_thru D19.out B18.out
  have RAL := Lib.hid (RAL.out.kept D19.out)
  have RBO := Lib.hid (RBO.out.kept D19.out)
  have RL := Lib.hid (RL.out.kept D19.out)
  have RP := Lib.hid (RP.out.kept D19.out)
  clear RAL
  go_wp2_with fail
  refine (mOf_any b _ (by omega) _ (Kb.out _ (B19.out))).mono ?_
  rintro e w20 ⟨x20, rfl, n20, b20⟩
  rw [E2.out.2.1] at n20
  obtain ⟨o20, d20, rfl⟩ := n20.shape
  have B20 : Hid (Below w0.heap.size w0 w20) := below_thru b20 B19.out
  have D20 : Hid (Below w19.heap.size w19 w20) := b20
  have RSB : Hid (TRow w20 (.slice o20 (SB).length d20) (SB)) := n20.trow
  have RBO := Lib.hid (RBO.out.kept D20.out)
  have RL := Lib.hid (RL.out.kept D20.out)
  have RP := Lib.hid (RP.out.kept D20.out)
  clear n20 b20
  clear RSB
  go_wp2
  go_loopw [17] (fun i wr => ∃ j : Nat, j ≤ b.length ∧ i = .int .i64 j ∧ Hid (wr = w20)) (fun i _ => b.length - (intOf i).toNat)
  case atStart => exact ⟨0, Nat.zero_le _, rfl, rfl⟩
  case round =>
    obtain ⟨j, hj, rfl, HW⟩ := hrel
    have hw := HW.out
    subst hw
    by_cases hlt : j < b.length
    · obtain ⟨x, hx⟩ : ∃ x, b[j]? = some x := ⟨b[j], List.getElem?_eq_getElem hlt⟩
      have hxm := List.mem_of_getElem? hx
      have hxb := Kb.out _ B20.out
      obtain ⟨ta, tc, te, tt⟩ := hxb.open
      rw [Value.slice.injEq] at te
      obtain ⟨rfl, _, rfl⟩ := te
      rcases tt with h0 | ⟨g, off, rfl, hg, hc⟩
      · rw [h0] at hlt; simp at hlt
      have hxc := hc j x hx
      have d1 : decide (x ∈ L) = true := by rw [decide_eq_true_iff]; exact E3.out.2.2.1 x hxm
      have d2 : decide (x ∈ AL) = false := by rw [decide_eq_false_iff_not]; exact E3.out.2.2.2 x hxm
      have hjI : (j : Int) < (b.length : Int) := by omega
      have hj0 : (0 : Int) ≤ (j : Int) := by omega
      clear hx hxm hxb hc
      go_wp2_with fail
      refine (mHas_any L _ x (by omega) _ RL.out).mono ?_
      rintro e wy ⟨rfl, rfl⟩
      rw [d1]
      go_wp2_with fail
      refine (mHas_any AL _ x (by omega) _ RP.out).mono ?_
      rintro e wz ⟨rfl, rfl⟩
      rw [d2]
      go_wp2
      go_roundw
      case rel => exact ⟨j + 1, by omega, by go_num, by first | exact trivial | rfl⟩
      case measure => simp [intOf]; omega
    · obtain rfl : b.length = j := by omega
      go_wp2
      go_ret
      exact ⟨rfl, below_thru B20.out W0.out⟩
theorem membersRules_walk (v0 : Value) (bs0 : List ByteArray) (v1 : Value) (bs1 : List ByteArray) (v2 : Value) (bs2 : List ByteArray) (w : World) (hb : bulkS bs0 + bulkS bs1 + bulkS bs2 ≤ 1048576) (s0 : SRow w v0 bs0) (s1 : SRow w v1 bs1) (s2 : SRow w v2 bs2) :
    Calls Try.prog 9 #[v0, v1, v2] w fun e w' => e = .returned (.bool true) ∧ Below w.heap.size w w' :=
  rules_up v0 v1 v2 (texts bs0) (texts bs1) (texts bs2) (by rw [texts_length, texts_length, texts_length]; have := bulkS_length bs0; have := bulkS_length bs1; have := bulkS_length bs2; omega) w (TRow.of s0) (TRow.of s1) (TRow.of s2)
end Go.Proofs.Ytjceoigekifgdaa
