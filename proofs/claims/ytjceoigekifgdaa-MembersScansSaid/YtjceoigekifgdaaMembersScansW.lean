/- The walk of MembersScans. -/
import Derived.Test.YtjceoigekifgdaaMem10
import Derived.Test.YtjceoigekifgdaaMembersAddsW
namespace Go.Proofs.Ytjceoigekifgdaa
open Go.ChangeShapes Go.WideShapes Go.ChangeAt Go.RowKit Go.Sort
set_option linter.unusedVariables false

/-- What was told so far: the first k, all up to the last; the others behind it. -/
structure ScanAt (w0 w : World) (v : Value) (last : Tx) (k : Nat) (A : List Tx) : Prop where
  made : Made w0 w v (A.take k)
  below : Below w0.heap.size w0 w
  rise : Pl.Rising A
  low : ∀ x ∈ A.take k, ¬ last < x
  high : ∀ x ∈ A.drop k, last < x
theorem scan_after {A : List Tx} {k : Nat} {last : Tx} {M : Int} (h1 : ∀ x ∈ A.take k, ¬ last < x) (h2 : ∀ x ∈ A.drop k, last < x) : Pl.after last M A = (A.drop k).take M.toNat := by
  unfold Pl.after
  have h : A.filter (fun x => decide (last < x)) = A.drop k := by
    conv => lhs; rw [← List.take_append_drop k A]
    rw [List.filter_append, List.filter_eq_nil_iff.2 (fun x hx => by simpa using h1 x hx), List.filter_eq_self.2 (fun x hx => by simpa using h2 x hx), List.nil_append]
  rw [h]
theorem scan_plain {A X : List Tx} {k p n : Nat} {y : Tx} (hr : Pl.Rising A) (hXk : k + X.length ≤ A.length) (hX : (A.drop k).take n = X) (hp : X.length = p + 1) (hy : X[p]? = some y) :
    A.take k ++ X = A.take (k + X.length) ∧ (∀ x ∈ A.take (k + X.length), ¬ y < x) ∧ ∀ x ∈ A.drop (k + X.length), y < x := by
  have hXn : X = (A.drop k).take X.length := by
    subst hX; rw [List.length_take, ← List.take_eq_take_min]
  have hyA : ∃ h : k + p < A.length, A[k + p] = y := by
    rw [hXn, List.getElem?_take_of_lt (by omega), List.getElem?_drop] at hy
    exact List.getElem?_eq_some_iff.1 hy
  obtain ⟨hlt, hyv⟩ := hyA
  refine ⟨?_, fun x hx => ?_, fun x hx => ?_⟩
  · rw [List.take_add]; congr 1
  · obtain ⟨j, hj, rfl⟩ := List.mem_iff_getElem.1 hx
    rw [List.length_take] at hj
    rw [List.getElem_take, ← hyv]
    by_cases e : j = k + p
    · subst e; exact Pl.ltI _
    · exact Pl.ltA (List.pairwise_iff_getElem.1 hr j (k + p) (by omega) hlt (by omega))
  · obtain ⟨j, hj, rfl⟩ := List.mem_iff_getElem.1 hx
    rw [List.length_drop] at hj
    rw [List.getElem_drop, ← hyv]
    exact List.pairwise_iff_getElem.1 hr (k + p) (k + X.length + j) hlt (by omega) (by omega)
theorem scan_shape {w1 w5 : World} {v5 : Value} {A X : List Tx} {k p n : Nat} {y : Tx} (hr : Pl.Rising A) (hXk : k + X.length ≤ A.length) (hX : (A.drop k).take n = X) (hp : X.length = p + 1) (hy : X[p]? = some y) (hm : Made w1 w5 v5 (A.take k ++ X)) (hb : Below w1.heap.size w1 w5) :
    ∃ o5 c5, v5 = .slice o5 (k + X.length) c5 ∧ Hid (ScanAt w1 w5 (.slice o5 (k + X.length) c5) y (k + X.length) A) := by
  obtain ⟨e1, e2, e3⟩ := scan_plain hr hXk hX hp hy
  rw [e1] at hm
  obtain ⟨o5, c5, e⟩ := hm.shape
  rw [List.length_take, Nat.min_eq_left hXk] at e
  exact ⟨o5, c5, e, e ▸ hm, hb, hr, e2, e3⟩
theorem Fresh.addr {w w' : World} {g off n c : Nat} {xs : List Tx} (h : Fresh w w' (.slice (some ⟨g, off, none⟩) n c) xs) (h0 : 0 < xs.length) : w.heap.size ≤ g := by
  obtain ⟨ao, cp, e, h⟩ := h
  rw [Value.slice.injEq] at e
  obtain ⟨rfl, _, _⟩ := e
  rcases h with ⟨h, _⟩ | ⟨g', cur, e, h1, _⟩
  · simp at h
  · simp only [Option.some.injEq, Addr.mk.injEq] at e
    obtain ⟨rfl, _, _⟩ := e
    exact h1
theorem cell_of_grown {w1 wr w2 w5 : World} {v : Value} {L : List Tx} {gx o : Nat} (hm : Made w1 wr v L) (h1 : wr.heap.size ≤ gx) (h2 : gx < w2.heap.size) (hg : w2.grownBy w5 v.ownBlock) : w5.cell? ⟨gx, o, none⟩ = w2.cell? ⟨gx, o, none⟩ :=
  World.cell?_of_block (w := w2) (hg.block gx h2 fun e => by have := (hm.owns.lt gx e.symm).2; omega)
section
variable {P : Program} {o : Oper} {a : Act} {Q : Exit → Act → World → Prop} {K : Act → World → Prop}
theorem wp_append_rowg {w0 w : World} (s x : Operand) (ho : o.op = .call { callee := .builtin .append, args := #[s, x], argTypes := #[22, 22] })
    (xs ts : List Tx) (v u : Value) (hs : a.eval s = v) (hx : a.eval x = u) (hM : Made w0 w v xs) (hu : TRow w u ts) (hb : Below w0.heap.size w0 w) (hn : xs.length + ts.length ≤ 8796093022200)
    (h : ∀ v' w', Made w0 w' v' (xs ++ ts) → Below w0.heap.size w0 w' → w.grownBy w' v.ownBlock → K (a.put o.dst v') w') : o.wp Try.prog a w K Q := by
  obtain ⟨i, hi, hz, hsz, hby⟩ := info_parts infoS
  obtain ⟨ao, cp, rfl, hh⟩ := hu.open
  have out : ∀ v' w', w'.ownsRow w0.heap.size 9 1 v' (xs.length + ts.length) (xs.map strV ++ ts.map strV) → w.grownBy w' v.ownBlock → K (a.put o.dst v') w' := fun v' w' hown hg =>
    h v' w' (Made.of (n := xs.length + ts.length) (by rw [List.map_append]; exact hown)) (hb.grown hg hb.size fun k hk => (hM.owns.lt k hk).1) hg
  have some_case : ∀ ad : Addr, ao = some ad → (∀ j u, (ts.map strV)[j]? = some u → w.cell? (ad.add j) = some u) → o.wp Try.prog a w K Q := fun ad e hc => by
    subst e
    exact wp_append_own w s x _ ho w0.heap.size 9 i _ 1 16 Try.underlying22 hi hz hsz hby rfl (by omega) v xs.length (xs.map strV) hs hM.owns ad ts.length cp (ts.map strV) hx (by simp) hc (by
      intro u hu
      obtain ⟨t, _, rfl⟩ := List.mem_map.1 hu
      rfl) (by unfold maxLen; omega) (by omega) hb.size fun v' w' h2 h3 _ => out v' w' h2 h3
  rcases hh with rfl | ⟨g, off, rfl, hg, hc⟩
  · rcases ao with _ | ad
    · have hrun := run_append_nilcap (P := Try.prog) (w := w) w0.heap.size 22 o.type 9 i 1 cp Try.underlying22 hi v xs.length (xs.map strV) hM.owns
      have hk := h v w (by rw [List.append_nil]; exact hM) hb (World.grownBy.refl _ _)
      unfold Oper.wp
      simp [execOp, ho, resolve, invoke, builtin, hs, hx, hrun, Result.andThen]
      exact hk
    · exact some_case ad rfl (by simp)
  · refine some_case _ rfl fun j u hu => ?_
    obtain ⟨t, ht, rfl⟩ : ∃ t, ts[j]? = some t ∧ strV t = u := by simpa using hu
    rw [add_plain]
    exact hc j t ht
theorem wpList_append_rowg {w0 w : World} {ops : Array Oper} {rest : List Oper} (hgd : o.guard = none) (s x : Operand) (ho : o.op = .call { callee := .builtin .append, args := #[s, x], argTypes := #[22, 22] })
    (xs ts : List Tx) (v u : Value) (hs : a.eval s = v) (hx : a.eval x = u) (hM : Made w0 w v xs) (hu : TRow w u ts) (hb : Below w0.heap.size w0 w) (hn : xs.length + ts.length ≤ 8796093022200)
    (h : ∀ v' w', Made w0 w' v' (xs ++ ts) → Below w0.heap.size w0 w' → w.grownBy w' v.ownBlock → wpList Try.prog ops Q rest (a.put o.dst v') w') : wpList Try.prog ops Q (o :: rest) a w :=
  wpList_plain hgd fun _ hK => wp_append_rowg s x ho xs ts v u hs hx hM hu hb hn fun v' w' h1 h2 h3 => hK _ _ (h v' w' h1 h2 h3)
end
theorem nil_lt {x : Tx} (h : x ≠ []) : ([] : Tx) < x := by
  cases x with
  | nil => exact absurd rfl h
  | cons a r => exact List.Lex.nil
set_option maxHeartbeats 1000000 in
set_option maxRecDepth 100000 in
theorem scans_up (v : Value) (l : List Tx) (most : Int) (hm0 : most ≤ 9223372036854775807) (hl : l.length ≤ 8796093022000) (w : World) (h1 : TRow w v l) :
    Calls Try.prog 5 #[v, .int .i64 most] w fun e w' => e = .returned (.bool true) ∧ Below w.heap.size w w' := by
  have HW := Lib.hid h1
  clear h1
  by_cases hm : most < 1
  · skip
    go_enter Try.func5, Try.ntmps5
    go_wp2_with fail
    refine (awake_any _).mono ?_
    rintro e w0 ⟨rfl, b0⟩
    have B0 := Lib.hid b0
    have H := Lib.hid (HW.out.kept b0)
    clear b0
    go_wp2_with fail
    refine (refOf_any l v hl _ H.out).mono ?_
    rintro e w1 ⟨a, rfl, m1, b1⟩
    obtain ⟨A, hA⟩ : ∃ A, Pl.ofS l = A := ⟨_, rfl⟩
    have hAl : A.length ≤ 8796093022000 := by rw [← hA]; exact Nat.le_trans (Pl.ofS_length _) hl
    have hAr : Hid (Pl.Rising A) := hA ▸ Pl.rising_ofS l
    rw [hA] at m1
    obtain ⟨oa, ca, rfl, r1⟩ := m1.fresh.rowC
    have M1 := Lib.hid (And.intro m1 (And.intro b1 r1))
    have HA := Lib.hid hA
    clear m1 b1 r1 hA
    by_cases hA0 : A.length = 0
    · have qN : decide (0 < A.length) = false := by rw [decide_eq_false_iff_not]; omega
      have HK : Hid (0 ≤ A.length) := Nat.zero_le _
      have HS : Hid (ScanAt w1 w1 (.slice none 0 0) [] 0 A) := ⟨Made.nil _ _, Below.refl _ _, hAr.out, by simp, by rw [List.eq_nil_of_length_eq_zero hA0]; simp⟩
      clear hA0
      go_wp2
      go_loopw [6, 7, 8] (fun o la i wr => ∃ (k q : Nat) (last : Tx) (oo : Option Addr) (oc : Nat), q ≤ k ∧ k ≤ A.length ∧ i = .int .i64 q ∧ la = .string (str last) ∧ o = .slice oo k oc ∧ Hid (ScanAt w1 wr (.slice oo k oc) last k A)) (fun _ _ i _ => A.length + 1 - (intOf i).toNat)
      case atStart => exact ⟨_, 0, [], _, _, Nat.zero_le _, HK.out, rfl, rfl, rfl, HS.out⟩
      case round =>
        clear HS HK
        obtain ⟨k, q, last, oo, oc, hq, hk, rfl, rfl, rfl, HM⟩ := hrel
        have hqI : (q : Int) ≤ (A.length : Int) := by omega
        have hqN : q ≤ A.length := by omega
        have hqD : decide (q ≤ A.length) = true := by rw [decide_eq_true_iff]; exact hqN
        go_wp2_with fail
        refine (mAfter_any l last (1) v (by omega) _ (H.out.kept (below_thru HM.out.below M1.out.2.1))).mono ?_
        rintro e w2 ⟨x2, rfl, n2, b2⟩
        rw [HA.out, scan_after HM.out.low HM.out.high] at n2
        obtain ⟨X, hX⟩ : ∃ X, (A.drop k).take (Int.toNat (1)) = X := ⟨_, rfl⟩
        rw [hX] at n2
        have hXl : X.length ≤ Int.toNat (1) := by rw [← hX]; exact List.length_take_le _ _
        have hXk : k + X.length ≤ A.length := by
          have : X.length ≤ (A.drop k).length := by rw [← hX]; exact List.length_take_le' _ _
          rw [List.length_drop] at this; omega
        have hXm : (X.length : Int) ≤ (1) := by omega
        have hXD : decide ((1) < (X.length : Int)) = false := by rw [decide_eq_false_iff_not]; omega
        obtain ⟨ox, cx, rfl, rx⟩ := n2.rowC
        have HX := Lib.hid hX
        have M2 := Lib.hid (And.intro n2 (And.intro b2 rx))
        clear hX n2 b2 rx
        by_cases h0 : X.length = 0
        · have hz : ((X.length : Int) == 0) = true := by rw [beq_iff_eq]; omega
          have H0 := Lib.hid h0
          clear h0
          have hAk : A.drop k = [] := by
            have h1 := HX.out
            have h2 : X = [] := List.eq_nil_of_length_eq_zero H0.out
            rw [h2] at h1
            rcases List.take_eq_nil_iff.1 h1 with h | h
            · omega
            · exact h
          have hkA : A.take k = A := by have := List.take_append_drop k A; rw [hAk, List.append_nil] at this; exact this
          have hkl : k = A.length := by have := congrArg List.length hAk; rw [List.length_drop] at this; simp at this; omega
          have T1 : Hid (TRow w2 (.slice oo k oc) A) := by
            have := HM.out.made.trow.kept M2.out.2.1
            rw [hkA] at this
            exact this
          have T2 : Hid (TRow w2 (.slice _ A.length ca) A) := M1.out.1.trow.kept (below_thru M2.out.2.1 HM.out.below)
          clear hAk hkA hkl
          go_wp2_with fail
          refine (same_true A _ _ (by omega) _ T1.out T2.out).mono ?_
          rintro e w3 ⟨rfl, m3, rfl⟩
          go_wp2
          go_ret
          exact ⟨rfl, below_drewN (below_thru (below_thru M2.out.2.1 (below_thru HM.out.below M1.out.2.1)) B0.out) _⟩
        · obtain ⟨p, hp⟩ : ∃ p, X.length = p + 1 := ⟨X.length - 1, by omega⟩
          have hz : ((X.length : Int) == 0) = false := by rw [beq_eq_false_iff_ne]; omega
          obtain ⟨y, hy⟩ : ∃ y, X[p]? = some y := ⟨X[p], List.getElem?_eq_getElem (by omega)⟩
          rcases M2.out.2.2.2.2 with h9 | ⟨gx, offx, rfl, hgx, hcx⟩
          · rw [h9] at hp; simp at hp
          have hyc := hcx p y hy
          have hpI : (X.length : Int) - 1 = (p : Int) := by omega
          have hpw : IntKind.i64.wrap (p : Int) = (p : Int) := by unfold IntKind.wrap; simp [IntKind.signed, IntKind.bits]; omega
          have hp0 : (0 : Int) ≤ (p : Int) := by omega
          have hp1 : (p : Int) < (X.length : Int) := by omega
          have HY := Lib.hid (And.intro hp hy)
          clear hcx hy h0 hp
          have hgw := M2.out.1.addr (by have := HY.out.1; omega)
          go_wp2_with (at_builtin; refine wpList_append_rowg (w0 := w1) rfl _ _ rfl (A.take k) X _ _ rfl rfl (HM.out.made.kept M2.out.2.1) M2.out.1.trow (below_thru M2.out.2.1 HM.out.below) (by rw [List.length_take]; omega) ?_; intro v5 w5 m5 b5 g5; have hyc5 : w5.cell? ⟨gx, offx + p, none⟩ = some (.string (str y)) := (cell_of_grown HM.out.made hgw hgx g5).trans hyc; obtain ⟨o5, c5, rfl, HN⟩ := scan_shape (y := y) HM.out.rise hXk HX.out HY.out.1 HY.out.2 m5 b5; clear m5 b5 g5 hyc)
          go_wp2
          go_roundw
          case rel => exact ⟨k + X.length, q + 1, y, o5, c5, by have := HY.out.1; omega, hXk, by go_num, rfl, rfl, HN⟩
          case measure => simp [intOf]; omega
    · obtain ⟨x, hx⟩ : ∃ x, A[0]? = some x := ⟨A[0]'(by omega), List.getElem?_eq_getElem _⟩
      have qN : decide (0 < A.length) = true := by rw [decide_eq_true_iff]; omega
      have qI : (0 : Int) < (A.length : Int) := by omega
      rcases M1.out.2.2.2.2 with h9 | ⟨ga, offa, rfl, hga, hca⟩
      · rw [h9] at hA0; simp at hA0
      have hxc := hca 0 x hx
      simp only [Nat.add_zero] at hxc
      by_cases he : x = []
      · have b2 : ((str x).toList == (str []).toList) = true := by rw [eq_str, decide_eq_true he]
        have b3 : ((str x).toList == []) = true := by rw [strList, he]; rfl
        have HK : Hid (1 ≤ A.length) := by show _ ≤ _; omega
        have HF : Hid ([([] : Tx)] = A.take 1 ∧ (∀ z ∈ A.take 1, ¬ ([] : Tx) < z) ∧ ∀ z ∈ A.drop 1, ([] : Tx) < z) := by
          obtain ⟨y, r, rfl⟩ : ∃ y r, A = y :: r := by cases A with | nil => simp at hA0 | cons y r => exact ⟨y, r, rfl⟩
          have hy : y = [] := by simp at hx; rw [hx]; exact he
          subst hy
          exact ⟨by simp, by simp, fun z hz => (List.pairwise_cons.1 hAr.out).1 z (by simpa using hz)⟩
        clear hca hx he hA0
        go_wp2_with (at_builtin; refine wpList_append_one _ rfl _ _ 22 rfl w1.heap.size 9 (.string ⟨#[]⟩) 16 Try.underlying22 infoS rfl _ 0 [] rfl (by exact World.ownsRow_nil _ _ _ _) (.string (str [])) rfl rfl (by simp only [maxLen]; omega) (by omega) (Nat.le_refl _) ?_; intro v5 w5 hown5 hg5 hbl; have hb5 := hbl w1 w1.heap.size (Below.refl _ _) (Nat.le_refl _); clear hbl hg5; obtain ⟨a5, c5, rfl, HM5⟩ := grownT (L := []) hown5 hb5; clear hown5 hb5)
        have HS : Hid (ScanAt w1 _ (.slice a5 1 c5) [] 1 A) := ⟨by have := HM5.out.1; rw [← HF.out.1]; exact this, HM5.out.2, hAr.out, HF.out.2.1, HF.out.2.2⟩
        clear HM5
        go_wp2
        go_loopw [6, 7, 8] (fun o la i wr => ∃ (k q : Nat) (last : Tx) (oo : Option Addr) (oc : Nat), q ≤ k ∧ k ≤ A.length ∧ i = .int .i64 q ∧ la = .string (str last) ∧ o = .slice oo k oc ∧ Hid (ScanAt w1 wr (.slice oo k oc) last k A)) (fun _ _ i _ => A.length + 1 - (intOf i).toNat)
        case atStart => exact ⟨_, 0, [], _, _, Nat.zero_le _, HK.out, rfl, rfl, rfl, HS.out⟩
        case round =>
          clear HS HK
          obtain ⟨k, q, last, oo, oc, hq, hk, rfl, rfl, rfl, HM⟩ := hrel
          have hqI : (q : Int) ≤ (A.length : Int) := by omega
          have hqN : q ≤ A.length := by omega
          have hqD : decide (q ≤ A.length) = true := by rw [decide_eq_true_iff]; exact hqN
          go_wp2_with fail
          refine (mAfter_any l last (1) v (by omega) _ (H.out.kept (below_thru HM.out.below M1.out.2.1))).mono ?_
          rintro e w2 ⟨x2, rfl, n2, b2⟩
          rw [HA.out, scan_after HM.out.low HM.out.high] at n2
          obtain ⟨X, hX⟩ : ∃ X, (A.drop k).take (Int.toNat (1)) = X := ⟨_, rfl⟩
          rw [hX] at n2
          have hXl : X.length ≤ Int.toNat (1) := by rw [← hX]; exact List.length_take_le _ _
          have hXk : k + X.length ≤ A.length := by
            have : X.length ≤ (A.drop k).length := by rw [← hX]; exact List.length_take_le' _ _
            rw [List.length_drop] at this; omega
          have hXm : (X.length : Int) ≤ (1) := by omega
          have hXD : decide ((1) < (X.length : Int)) = false := by rw [decide_eq_false_iff_not]; omega
          obtain ⟨ox, cx, rfl, rx⟩ := n2.rowC
          have HX := Lib.hid hX
          have M2 := Lib.hid (And.intro n2 (And.intro b2 rx))
          clear hX n2 b2 rx
          by_cases h0 : X.length = 0
          · have hz : ((X.length : Int) == 0) = true := by rw [beq_iff_eq]; omega
            have H0 := Lib.hid h0
            clear h0
            have hAk : A.drop k = [] := by
              have h1 := HX.out
              have h2 : X = [] := List.eq_nil_of_length_eq_zero H0.out
              rw [h2] at h1
              rcases List.take_eq_nil_iff.1 h1 with h | h
              · omega
              · exact h
            have hkA : A.take k = A := by have := List.take_append_drop k A; rw [hAk, List.append_nil] at this; exact this
            have hkl : k = A.length := by have := congrArg List.length hAk; rw [List.length_drop] at this; simp at this; omega
            have T1 : Hid (TRow w2 (.slice oo k oc) A) := by
              have := HM.out.made.trow.kept M2.out.2.1
              rw [hkA] at this
              exact this
            have T2 : Hid (TRow w2 (.slice _ A.length ca) A) := M1.out.1.trow.kept (below_thru M2.out.2.1 HM.out.below)
            clear hAk hkA hkl
            go_wp2_with fail
            refine (same_true A _ _ (by omega) _ T1.out T2.out).mono ?_
            rintro e w3 ⟨rfl, m3, rfl⟩
            go_wp2
            go_ret
            exact ⟨rfl, below_drewN (below_thru (below_thru M2.out.2.1 (below_thru HM.out.below M1.out.2.1)) B0.out) _⟩
          · obtain ⟨p, hp⟩ : ∃ p, X.length = p + 1 := ⟨X.length - 1, by omega⟩
            have hz : ((X.length : Int) == 0) = false := by rw [beq_eq_false_iff_ne]; omega
            obtain ⟨y, hy⟩ : ∃ y, X[p]? = some y := ⟨X[p], List.getElem?_eq_getElem (by omega)⟩
            rcases M2.out.2.2.2.2 with h9 | ⟨gx, offx, rfl, hgx, hcx⟩
            · rw [h9] at hp; simp at hp
            have hyc := hcx p y hy
            have hpI : (X.length : Int) - 1 = (p : Int) := by omega
            have hpw : IntKind.i64.wrap (p : Int) = (p : Int) := by unfold IntKind.wrap; simp [IntKind.signed, IntKind.bits]; omega
            have hp0 : (0 : Int) ≤ (p : Int) := by omega
            have hp1 : (p : Int) < (X.length : Int) := by omega
            have HY := Lib.hid (And.intro hp hy)
            clear hcx hy h0 hp
            have hgw := M2.out.1.addr (by have := HY.out.1; omega)
            go_wp2_with (at_builtin; refine wpList_append_rowg (w0 := w1) rfl _ _ rfl (A.take k) X _ _ rfl rfl (HM.out.made.kept M2.out.2.1) M2.out.1.trow (below_thru M2.out.2.1 HM.out.below) (by rw [List.length_take]; omega) ?_; intro v5 w5 m5 b5 g5; have hyc5 : w5.cell? ⟨gx, offx + p, none⟩ = some (.string (str y)) := (cell_of_grown HM.out.made hgw hgx g5).trans hyc; obtain ⟨o5, c5, rfl, HN⟩ := scan_shape (y := y) HM.out.rise hXk HX.out HY.out.1 HY.out.2 m5 b5; clear m5 b5 g5 hyc)
            go_wp2
            go_roundw
            case rel => exact ⟨k + X.length, q + 1, y, o5, c5, by have := HY.out.1; omega, hXk, by go_num, rfl, rfl, HN⟩
            case measure => simp [intOf]; omega
      · have b2 : ((str x).toList == (str []).toList) = false := by rw [eq_str, decide_eq_false he]
        have b3 : ((str x).toList == []) = false := by rw [strList]; cases x with | nil => exact absurd rfl he | cons => rfl
        have HK : Hid (0 ≤ A.length) := Nat.zero_le _
        have HS : Hid (ScanAt w1 w1 (.slice none 0 0) [] 0 A) := ⟨Made.nil _ _, Below.refl _ _, hAr.out, by simp, by
          obtain ⟨y, r, rfl⟩ : ∃ y r, A = y :: r := by cases A with | nil => simp at hA0 | cons y r => exact ⟨y, r, rfl⟩
          have hy : y ≠ [] := by simp at hx; rw [hx]; exact he
          intro z hz
          refine nil_lt fun e => ?_
          subst e
          have hz' : ([] : Tx) ∈ y :: r := hz
          rcases List.mem_cons.1 hz' with h | h
          · exact hy h.symm
          · exact absurd ((List.pairwise_cons.1 hAr.out).1 [] h) (List.not_lt_nil _)⟩
        clear hca hx he hA0
        go_wp2
        go_loopw [6, 7, 8] (fun o la i wr => ∃ (k q : Nat) (last : Tx) (oo : Option Addr) (oc : Nat), q ≤ k ∧ k ≤ A.length ∧ i = .int .i64 q ∧ la = .string (str last) ∧ o = .slice oo k oc ∧ Hid (ScanAt w1 wr (.slice oo k oc) last k A)) (fun _ _ i _ => A.length + 1 - (intOf i).toNat)
        case atStart => exact ⟨_, 0, [], _, _, Nat.zero_le _, HK.out, rfl, rfl, rfl, HS.out⟩
        case round =>
          clear HS HK
          obtain ⟨k, q, last, oo, oc, hq, hk, rfl, rfl, rfl, HM⟩ := hrel
          have hqI : (q : Int) ≤ (A.length : Int) := by omega
          have hqN : q ≤ A.length := by omega
          have hqD : decide (q ≤ A.length) = true := by rw [decide_eq_true_iff]; exact hqN
          go_wp2_with fail
          refine (mAfter_any l last (1) v (by omega) _ (H.out.kept (below_thru HM.out.below M1.out.2.1))).mono ?_
          rintro e w2 ⟨x2, rfl, n2, b2⟩
          rw [HA.out, scan_after HM.out.low HM.out.high] at n2
          obtain ⟨X, hX⟩ : ∃ X, (A.drop k).take (Int.toNat (1)) = X := ⟨_, rfl⟩
          rw [hX] at n2
          have hXl : X.length ≤ Int.toNat (1) := by rw [← hX]; exact List.length_take_le _ _
          have hXk : k + X.length ≤ A.length := by
            have : X.length ≤ (A.drop k).length := by rw [← hX]; exact List.length_take_le' _ _
            rw [List.length_drop] at this; omega
          have hXm : (X.length : Int) ≤ (1) := by omega
          have hXD : decide ((1) < (X.length : Int)) = false := by rw [decide_eq_false_iff_not]; omega
          obtain ⟨ox, cx, rfl, rx⟩ := n2.rowC
          have HX := Lib.hid hX
          have M2 := Lib.hid (And.intro n2 (And.intro b2 rx))
          clear hX n2 b2 rx
          by_cases h0 : X.length = 0
          · have hz : ((X.length : Int) == 0) = true := by rw [beq_iff_eq]; omega
            have H0 := Lib.hid h0
            clear h0
            have hAk : A.drop k = [] := by
              have h1 := HX.out
              have h2 : X = [] := List.eq_nil_of_length_eq_zero H0.out
              rw [h2] at h1
              rcases List.take_eq_nil_iff.1 h1 with h | h
              · omega
              · exact h
            have hkA : A.take k = A := by have := List.take_append_drop k A; rw [hAk, List.append_nil] at this; exact this
            have hkl : k = A.length := by have := congrArg List.length hAk; rw [List.length_drop] at this; simp at this; omega
            have T1 : Hid (TRow w2 (.slice oo k oc) A) := by
              have := HM.out.made.trow.kept M2.out.2.1
              rw [hkA] at this
              exact this
            have T2 : Hid (TRow w2 (.slice _ A.length ca) A) := M1.out.1.trow.kept (below_thru M2.out.2.1 HM.out.below)
            clear hAk hkA hkl
            go_wp2_with fail
            refine (same_true A _ _ (by omega) _ T1.out T2.out).mono ?_
            rintro e w3 ⟨rfl, m3, rfl⟩
            go_wp2
            go_ret
            exact ⟨rfl, below_drewN (below_thru (below_thru M2.out.2.1 (below_thru HM.out.below M1.out.2.1)) B0.out) _⟩
          · obtain ⟨p, hp⟩ : ∃ p, X.length = p + 1 := ⟨X.length - 1, by omega⟩
            have hz : ((X.length : Int) == 0) = false := by rw [beq_eq_false_iff_ne]; omega
            obtain ⟨y, hy⟩ : ∃ y, X[p]? = some y := ⟨X[p], List.getElem?_eq_getElem (by omega)⟩
            rcases M2.out.2.2.2.2 with h9 | ⟨gx, offx, rfl, hgx, hcx⟩
            · rw [h9] at hp; simp at hp
            have hyc := hcx p y hy
            have hpI : (X.length : Int) - 1 = (p : Int) := by omega
            have hpw : IntKind.i64.wrap (p : Int) = (p : Int) := by unfold IntKind.wrap; simp [IntKind.signed, IntKind.bits]; omega
            have hp0 : (0 : Int) ≤ (p : Int) := by omega
            have hp1 : (p : Int) < (X.length : Int) := by omega
            have HY := Lib.hid (And.intro hp hy)
            clear hcx hy h0 hp
            have hgw := M2.out.1.addr (by have := HY.out.1; omega)
            go_wp2_with (at_builtin; refine wpList_append_rowg (w0 := w1) rfl _ _ rfl (A.take k) X _ _ rfl rfl (HM.out.made.kept M2.out.2.1) M2.out.1.trow (below_thru M2.out.2.1 HM.out.below) (by rw [List.length_take]; omega) ?_; intro v5 w5 m5 b5 g5; have hyc5 : w5.cell? ⟨gx, offx + p, none⟩ = some (.string (str y)) := (cell_of_grown HM.out.made hgw hgx g5).trans hyc; obtain ⟨o5, c5, rfl, HN⟩ := scan_shape (y := y) HM.out.rise hXk HX.out HY.out.1 HY.out.2 m5 b5; clear m5 b5 g5 hyc)
            go_wp2
            go_roundw
            case rel => exact ⟨k + X.length, q + 1, y, o5, c5, by have := HY.out.1; omega, hXk, by go_num, rfl, rfl, HN⟩
            case measure => simp [intOf]; omega

  · skip
    have hm1 : (1 : Int) ≤ most := by omega
    have hmD : decide (most < 1) = false := by rw [decide_eq_false_iff_not]; exact hm
    go_enter Try.func5, Try.ntmps5
    go_wp2_with fail
    refine (awake_any _).mono ?_
    rintro e w0 ⟨rfl, b0⟩
    have B0 := Lib.hid b0
    have H := Lib.hid (HW.out.kept b0)
    clear b0
    go_wp2_with fail
    refine (refOf_any l v hl _ H.out).mono ?_
    rintro e w1 ⟨a, rfl, m1, b1⟩
    obtain ⟨A, hA⟩ : ∃ A, Pl.ofS l = A := ⟨_, rfl⟩
    have hAl : A.length ≤ 8796093022000 := by rw [← hA]; exact Nat.le_trans (Pl.ofS_length _) hl
    have hAr : Hid (Pl.Rising A) := hA ▸ Pl.rising_ofS l
    rw [hA] at m1
    obtain ⟨oa, ca, rfl, r1⟩ := m1.fresh.rowC
    have M1 := Lib.hid (And.intro m1 (And.intro b1 r1))
    have HA := Lib.hid hA
    clear m1 b1 r1 hA
    by_cases hA0 : A.length = 0
    · have qN : decide (0 < A.length) = false := by rw [decide_eq_false_iff_not]; omega
      have HK : Hid (0 ≤ A.length) := Nat.zero_le _
      have HS : Hid (ScanAt w1 w1 (.slice none 0 0) [] 0 A) := ⟨Made.nil _ _, Below.refl _ _, hAr.out, by simp, by rw [List.eq_nil_of_length_eq_zero hA0]; simp⟩
      clear hA0
      go_wp2
      go_loopw [6, 7, 8] (fun o la i wr => ∃ (k q : Nat) (last : Tx) (oo : Option Addr) (oc : Nat), q ≤ k ∧ k ≤ A.length ∧ i = .int .i64 q ∧ la = .string (str last) ∧ o = .slice oo k oc ∧ Hid (ScanAt w1 wr (.slice oo k oc) last k A)) (fun _ _ i _ => A.length + 1 - (intOf i).toNat)
      case atStart => exact ⟨_, 0, [], _, _, Nat.zero_le _, HK.out, rfl, rfl, rfl, HS.out⟩
      case round =>
        clear HS HK
        obtain ⟨k, q, last, oo, oc, hq, hk, rfl, rfl, rfl, HM⟩ := hrel
        have hqI : (q : Int) ≤ (A.length : Int) := by omega
        have hqN : q ≤ A.length := by omega
        have hqD : decide (q ≤ A.length) = true := by rw [decide_eq_true_iff]; exact hqN
        go_wp2_with fail
        refine (mAfter_any l last (most) v (by omega) _ (H.out.kept (below_thru HM.out.below M1.out.2.1))).mono ?_
        rintro e w2 ⟨x2, rfl, n2, b2⟩
        rw [HA.out, scan_after HM.out.low HM.out.high] at n2
        obtain ⟨X, hX⟩ : ∃ X, (A.drop k).take (Int.toNat (most)) = X := ⟨_, rfl⟩
        rw [hX] at n2
        have hXl : X.length ≤ Int.toNat (most) := by rw [← hX]; exact List.length_take_le _ _
        have hXk : k + X.length ≤ A.length := by
          have : X.length ≤ (A.drop k).length := by rw [← hX]; exact List.length_take_le' _ _
          rw [List.length_drop] at this; omega
        have hXm : (X.length : Int) ≤ (most) := by omega
        have hXD : decide ((most) < (X.length : Int)) = false := by rw [decide_eq_false_iff_not]; omega
        obtain ⟨ox, cx, rfl, rx⟩ := n2.rowC
        have HX := Lib.hid hX
        have M2 := Lib.hid (And.intro n2 (And.intro b2 rx))
        clear hX n2 b2 rx
        by_cases h0 : X.length = 0
        · have hz : ((X.length : Int) == 0) = true := by rw [beq_iff_eq]; omega
          have H0 := Lib.hid h0
          clear h0
          have hAk : A.drop k = [] := by
            have h1 := HX.out
            have h2 : X = [] := List.eq_nil_of_length_eq_zero H0.out
            rw [h2] at h1
            rcases List.take_eq_nil_iff.1 h1 with h | h
            · omega
            · exact h
          have hkA : A.take k = A := by have := List.take_append_drop k A; rw [hAk, List.append_nil] at this; exact this
          have hkl : k = A.length := by have := congrArg List.length hAk; rw [List.length_drop] at this; simp at this; omega
          have T1 : Hid (TRow w2 (.slice oo k oc) A) := by
            have := HM.out.made.trow.kept M2.out.2.1
            rw [hkA] at this
            exact this
          have T2 : Hid (TRow w2 (.slice _ A.length ca) A) := M1.out.1.trow.kept (below_thru M2.out.2.1 HM.out.below)
          clear hAk hkA hkl
          go_wp2_with fail
          refine (same_true A _ _ (by omega) _ T1.out T2.out).mono ?_
          rintro e w3 ⟨rfl, m3, rfl⟩
          go_wp2
          go_ret
          exact ⟨rfl, below_drewN (below_thru (below_thru M2.out.2.1 (below_thru HM.out.below M1.out.2.1)) B0.out) _⟩
        · obtain ⟨p, hp⟩ : ∃ p, X.length = p + 1 := ⟨X.length - 1, by omega⟩
          have hz : ((X.length : Int) == 0) = false := by rw [beq_eq_false_iff_ne]; omega
          obtain ⟨y, hy⟩ : ∃ y, X[p]? = some y := ⟨X[p], List.getElem?_eq_getElem (by omega)⟩
          rcases M2.out.2.2.2.2 with h9 | ⟨gx, offx, rfl, hgx, hcx⟩
          · rw [h9] at hp; simp at hp
          have hyc := hcx p y hy
          have hpI : (X.length : Int) - 1 = (p : Int) := by omega
          have hpw : IntKind.i64.wrap (p : Int) = (p : Int) := by unfold IntKind.wrap; simp [IntKind.signed, IntKind.bits]; omega
          have hp0 : (0 : Int) ≤ (p : Int) := by omega
          have hp1 : (p : Int) < (X.length : Int) := by omega
          have HY := Lib.hid (And.intro hp hy)
          clear hcx hy h0 hp
          have hgw := M2.out.1.addr (by have := HY.out.1; omega)
          go_wp2_with (at_builtin; refine wpList_append_rowg (w0 := w1) rfl _ _ rfl (A.take k) X _ _ rfl rfl (HM.out.made.kept M2.out.2.1) M2.out.1.trow (below_thru M2.out.2.1 HM.out.below) (by rw [List.length_take]; omega) ?_; intro v5 w5 m5 b5 g5; have hyc5 : w5.cell? ⟨gx, offx + p, none⟩ = some (.string (str y)) := (cell_of_grown HM.out.made hgw hgx g5).trans hyc; obtain ⟨o5, c5, rfl, HN⟩ := scan_shape (y := y) HM.out.rise hXk HX.out HY.out.1 HY.out.2 m5 b5; clear m5 b5 g5 hyc)
          go_wp2
          go_roundw
          case rel => exact ⟨k + X.length, q + 1, y, o5, c5, by have := HY.out.1; omega, hXk, by go_num, rfl, rfl, HN⟩
          case measure => simp [intOf]; omega
    · obtain ⟨x, hx⟩ : ∃ x, A[0]? = some x := ⟨A[0]'(by omega), List.getElem?_eq_getElem _⟩
      have qN : decide (0 < A.length) = true := by rw [decide_eq_true_iff]; omega
      have qI : (0 : Int) < (A.length : Int) := by omega
      rcases M1.out.2.2.2.2 with h9 | ⟨ga, offa, rfl, hga, hca⟩
      · rw [h9] at hA0; simp at hA0
      have hxc := hca 0 x hx
      simp only [Nat.add_zero] at hxc
      by_cases he : x = []
      · have b2 : ((str x).toList == (str []).toList) = true := by rw [eq_str, decide_eq_true he]
        have b3 : ((str x).toList == []) = true := by rw [strList, he]; rfl
        have HK : Hid (1 ≤ A.length) := by show _ ≤ _; omega
        have HF : Hid ([([] : Tx)] = A.take 1 ∧ (∀ z ∈ A.take 1, ¬ ([] : Tx) < z) ∧ ∀ z ∈ A.drop 1, ([] : Tx) < z) := by
          obtain ⟨y, r, rfl⟩ : ∃ y r, A = y :: r := by cases A with | nil => simp at hA0 | cons y r => exact ⟨y, r, rfl⟩
          have hy : y = [] := by simp at hx; rw [hx]; exact he
          subst hy
          exact ⟨by simp, by simp, fun z hz => (List.pairwise_cons.1 hAr.out).1 z (by simpa using hz)⟩
        clear hca hx he hA0
        go_wp2_with (at_builtin; refine wpList_append_one _ rfl _ _ 22 rfl w1.heap.size 9 (.string ⟨#[]⟩) 16 Try.underlying22 infoS rfl _ 0 [] rfl (by exact World.ownsRow_nil _ _ _ _) (.string (str [])) rfl rfl (by simp only [maxLen]; omega) (by omega) (Nat.le_refl _) ?_; intro v5 w5 hown5 hg5 hbl; have hb5 := hbl w1 w1.heap.size (Below.refl _ _) (Nat.le_refl _); clear hbl hg5; obtain ⟨a5, c5, rfl, HM5⟩ := grownT (L := []) hown5 hb5; clear hown5 hb5)
        have HS : Hid (ScanAt w1 _ (.slice a5 1 c5) [] 1 A) := ⟨by have := HM5.out.1; rw [← HF.out.1]; exact this, HM5.out.2, hAr.out, HF.out.2.1, HF.out.2.2⟩
        clear HM5
        go_wp2
        go_loopw [6, 7, 8] (fun o la i wr => ∃ (k q : Nat) (last : Tx) (oo : Option Addr) (oc : Nat), q ≤ k ∧ k ≤ A.length ∧ i = .int .i64 q ∧ la = .string (str last) ∧ o = .slice oo k oc ∧ Hid (ScanAt w1 wr (.slice oo k oc) last k A)) (fun _ _ i _ => A.length + 1 - (intOf i).toNat)
        case atStart => exact ⟨_, 0, [], _, _, Nat.zero_le _, HK.out, rfl, rfl, rfl, HS.out⟩
        case round =>
          clear HS HK
          obtain ⟨k, q, last, oo, oc, hq, hk, rfl, rfl, rfl, HM⟩ := hrel
          have hqI : (q : Int) ≤ (A.length : Int) := by omega
          have hqN : q ≤ A.length := by omega
          have hqD : decide (q ≤ A.length) = true := by rw [decide_eq_true_iff]; exact hqN
          go_wp2_with fail
          refine (mAfter_any l last (most) v (by omega) _ (H.out.kept (below_thru HM.out.below M1.out.2.1))).mono ?_
          rintro e w2 ⟨x2, rfl, n2, b2⟩
          rw [HA.out, scan_after HM.out.low HM.out.high] at n2
          obtain ⟨X, hX⟩ : ∃ X, (A.drop k).take (Int.toNat (most)) = X := ⟨_, rfl⟩
          rw [hX] at n2
          have hXl : X.length ≤ Int.toNat (most) := by rw [← hX]; exact List.length_take_le _ _
          have hXk : k + X.length ≤ A.length := by
            have : X.length ≤ (A.drop k).length := by rw [← hX]; exact List.length_take_le' _ _
            rw [List.length_drop] at this; omega
          have hXm : (X.length : Int) ≤ (most) := by omega
          have hXD : decide ((most) < (X.length : Int)) = false := by rw [decide_eq_false_iff_not]; omega
          obtain ⟨ox, cx, rfl, rx⟩ := n2.rowC
          have HX := Lib.hid hX
          have M2 := Lib.hid (And.intro n2 (And.intro b2 rx))
          clear hX n2 b2 rx
          by_cases h0 : X.length = 0
          · have hz : ((X.length : Int) == 0) = true := by rw [beq_iff_eq]; omega
            have H0 := Lib.hid h0
            clear h0
            have hAk : A.drop k = [] := by
              have h1 := HX.out
              have h2 : X = [] := List.eq_nil_of_length_eq_zero H0.out
              rw [h2] at h1
              rcases List.take_eq_nil_iff.1 h1 with h | h
              · omega
              · exact h
            have hkA : A.take k = A := by have := List.take_append_drop k A; rw [hAk, List.append_nil] at this; exact this
            have hkl : k = A.length := by have := congrArg List.length hAk; rw [List.length_drop] at this; simp at this; omega
            have T1 : Hid (TRow w2 (.slice oo k oc) A) := by
              have := HM.out.made.trow.kept M2.out.2.1
              rw [hkA] at this
              exact this
            have T2 : Hid (TRow w2 (.slice _ A.length ca) A) := M1.out.1.trow.kept (below_thru M2.out.2.1 HM.out.below)
            clear hAk hkA hkl
            go_wp2_with fail
            refine (same_true A _ _ (by omega) _ T1.out T2.out).mono ?_
            rintro e w3 ⟨rfl, m3, rfl⟩
            go_wp2
            go_ret
            exact ⟨rfl, below_drewN (below_thru (below_thru M2.out.2.1 (below_thru HM.out.below M1.out.2.1)) B0.out) _⟩
          · obtain ⟨p, hp⟩ : ∃ p, X.length = p + 1 := ⟨X.length - 1, by omega⟩
            have hz : ((X.length : Int) == 0) = false := by rw [beq_eq_false_iff_ne]; omega
            obtain ⟨y, hy⟩ : ∃ y, X[p]? = some y := ⟨X[p], List.getElem?_eq_getElem (by omega)⟩
            rcases M2.out.2.2.2.2 with h9 | ⟨gx, offx, rfl, hgx, hcx⟩
            · rw [h9] at hp; simp at hp
            have hyc := hcx p y hy
            have hpI : (X.length : Int) - 1 = (p : Int) := by omega
            have hpw : IntKind.i64.wrap (p : Int) = (p : Int) := by unfold IntKind.wrap; simp [IntKind.signed, IntKind.bits]; omega
            have hp0 : (0 : Int) ≤ (p : Int) := by omega
            have hp1 : (p : Int) < (X.length : Int) := by omega
            have HY := Lib.hid (And.intro hp hy)
            clear hcx hy h0 hp
            have hgw := M2.out.1.addr (by have := HY.out.1; omega)
            go_wp2_with (at_builtin; refine wpList_append_rowg (w0 := w1) rfl _ _ rfl (A.take k) X _ _ rfl rfl (HM.out.made.kept M2.out.2.1) M2.out.1.trow (below_thru M2.out.2.1 HM.out.below) (by rw [List.length_take]; omega) ?_; intro v5 w5 m5 b5 g5; have hyc5 : w5.cell? ⟨gx, offx + p, none⟩ = some (.string (str y)) := (cell_of_grown HM.out.made hgw hgx g5).trans hyc; obtain ⟨o5, c5, rfl, HN⟩ := scan_shape (y := y) HM.out.rise hXk HX.out HY.out.1 HY.out.2 m5 b5; clear m5 b5 g5 hyc)
            go_wp2
            go_roundw
            case rel => exact ⟨k + X.length, q + 1, y, o5, c5, by have := HY.out.1; omega, hXk, by go_num, rfl, rfl, HN⟩
            case measure => simp [intOf]; omega
      · have b2 : ((str x).toList == (str []).toList) = false := by rw [eq_str, decide_eq_false he]
        have b3 : ((str x).toList == []) = false := by rw [strList]; cases x with | nil => exact absurd rfl he | cons => rfl
        have HK : Hid (0 ≤ A.length) := Nat.zero_le _
        have HS : Hid (ScanAt w1 w1 (.slice none 0 0) [] 0 A) := ⟨Made.nil _ _, Below.refl _ _, hAr.out, by simp, by
          obtain ⟨y, r, rfl⟩ : ∃ y r, A = y :: r := by cases A with | nil => simp at hA0 | cons y r => exact ⟨y, r, rfl⟩
          have hy : y ≠ [] := by simp at hx; rw [hx]; exact he
          intro z hz
          refine nil_lt fun e => ?_
          subst e
          have hz' : ([] : Tx) ∈ y :: r := hz
          rcases List.mem_cons.1 hz' with h | h
          · exact hy h.symm
          · exact absurd ((List.pairwise_cons.1 hAr.out).1 [] h) (List.not_lt_nil _)⟩
        clear hca hx he hA0
        go_wp2
        go_loopw [6, 7, 8] (fun o la i wr => ∃ (k q : Nat) (last : Tx) (oo : Option Addr) (oc : Nat), q ≤ k ∧ k ≤ A.length ∧ i = .int .i64 q ∧ la = .string (str last) ∧ o = .slice oo k oc ∧ Hid (ScanAt w1 wr (.slice oo k oc) last k A)) (fun _ _ i _ => A.length + 1 - (intOf i).toNat)
        case atStart => exact ⟨_, 0, [], _, _, Nat.zero_le _, HK.out, rfl, rfl, rfl, HS.out⟩
        case round =>
          clear HS HK
          obtain ⟨k, q, last, oo, oc, hq, hk, rfl, rfl, rfl, HM⟩ := hrel
          have hqI : (q : Int) ≤ (A.length : Int) := by omega
          have hqN : q ≤ A.length := by omega
          have hqD : decide (q ≤ A.length) = true := by rw [decide_eq_true_iff]; exact hqN
          go_wp2_with fail
          refine (mAfter_any l last (most) v (by omega) _ (H.out.kept (below_thru HM.out.below M1.out.2.1))).mono ?_
          rintro e w2 ⟨x2, rfl, n2, b2⟩
          rw [HA.out, scan_after HM.out.low HM.out.high] at n2
          obtain ⟨X, hX⟩ : ∃ X, (A.drop k).take (Int.toNat (most)) = X := ⟨_, rfl⟩
          rw [hX] at n2
          have hXl : X.length ≤ Int.toNat (most) := by rw [← hX]; exact List.length_take_le _ _
          have hXk : k + X.length ≤ A.length := by
            have : X.length ≤ (A.drop k).length := by rw [← hX]; exact List.length_take_le' _ _
            rw [List.length_drop] at this; omega
          have hXm : (X.length : Int) ≤ (most) := by omega
          have hXD : decide ((most) < (X.length : Int)) = false := by rw [decide_eq_false_iff_not]; omega
          obtain ⟨ox, cx, rfl, rx⟩ := n2.rowC
          have HX := Lib.hid hX
          have M2 := Lib.hid (And.intro n2 (And.intro b2 rx))
          clear hX n2 b2 rx
          by_cases h0 : X.length = 0
          · have hz : ((X.length : Int) == 0) = true := by rw [beq_iff_eq]; omega
            have H0 := Lib.hid h0
            clear h0
            have hAk : A.drop k = [] := by
              have h1 := HX.out
              have h2 : X = [] := List.eq_nil_of_length_eq_zero H0.out
              rw [h2] at h1
              rcases List.take_eq_nil_iff.1 h1 with h | h
              · omega
              · exact h
            have hkA : A.take k = A := by have := List.take_append_drop k A; rw [hAk, List.append_nil] at this; exact this
            have hkl : k = A.length := by have := congrArg List.length hAk; rw [List.length_drop] at this; simp at this; omega
            have T1 : Hid (TRow w2 (.slice oo k oc) A) := by
              have := HM.out.made.trow.kept M2.out.2.1
              rw [hkA] at this
              exact this
            have T2 : Hid (TRow w2 (.slice _ A.length ca) A) := M1.out.1.trow.kept (below_thru M2.out.2.1 HM.out.below)
            clear hAk hkA hkl
            go_wp2_with fail
            refine (same_true A _ _ (by omega) _ T1.out T2.out).mono ?_
            rintro e w3 ⟨rfl, m3, rfl⟩
            go_wp2
            go_ret
            exact ⟨rfl, below_drewN (below_thru (below_thru M2.out.2.1 (below_thru HM.out.below M1.out.2.1)) B0.out) _⟩
          · obtain ⟨p, hp⟩ : ∃ p, X.length = p + 1 := ⟨X.length - 1, by omega⟩
            have hz : ((X.length : Int) == 0) = false := by rw [beq_eq_false_iff_ne]; omega
            obtain ⟨y, hy⟩ : ∃ y, X[p]? = some y := ⟨X[p], List.getElem?_eq_getElem (by omega)⟩
            rcases M2.out.2.2.2.2 with h9 | ⟨gx, offx, rfl, hgx, hcx⟩
            · rw [h9] at hp; simp at hp
            have hyc := hcx p y hy
            have hpI : (X.length : Int) - 1 = (p : Int) := by omega
            have hpw : IntKind.i64.wrap (p : Int) = (p : Int) := by unfold IntKind.wrap; simp [IntKind.signed, IntKind.bits]; omega
            have hp0 : (0 : Int) ≤ (p : Int) := by omega
            have hp1 : (p : Int) < (X.length : Int) := by omega
            have HY := Lib.hid (And.intro hp hy)
            clear hcx hy h0 hp
            have hgw := M2.out.1.addr (by have := HY.out.1; omega)
            go_wp2_with (at_builtin; refine wpList_append_rowg (w0 := w1) rfl _ _ rfl (A.take k) X _ _ rfl rfl (HM.out.made.kept M2.out.2.1) M2.out.1.trow (below_thru M2.out.2.1 HM.out.below) (by rw [List.length_take]; omega) ?_; intro v5 w5 m5 b5 g5; have hyc5 : w5.cell? ⟨gx, offx + p, none⟩ = some (.string (str y)) := (cell_of_grown HM.out.made hgw hgx g5).trans hyc; obtain ⟨o5, c5, rfl, HN⟩ := scan_shape (y := y) HM.out.rise hXk HX.out HY.out.1 HY.out.2 m5 b5; clear m5 b5 g5 hyc)
            go_wp2
            go_roundw
            case rel => exact ⟨k + X.length, q + 1, y, o5, c5, by have := HY.out.1; omega, hXk, by go_num, rfl, rfl, HN⟩
            case measure => simp [intOf]; omega

theorem membersScans_walk (v0 : Value) (bs0 : List ByteArray) (h0 : bs0.length ≤ 8796093022000) (a1 : Int) (w1 : (Lit.int .i64 a1).wf = true) (w : World) (s0 : SRow w v0 bs0) :
    Calls Try.prog 5 #[v0, .int .i64 a1] w fun e w' => e = .returned (.bool true) ∧ Below w.heap.size w w' :=
  scans_up v0 (texts bs0) a1 (by have := bounds_i64 w1; omega) (by rw [texts_length]; exact h0) w (TRow.of s0)
end Go.Proofs.Ytjceoigekifgdaa
