/- Put in, taken out: the program's and the reference's. -/
import Derived.Test.YtjceoigekifgdaaMem4
import Derived.Laws.OwnMore
import Derived.Deep.AppendLies
namespace Go.Proofs.Ytjceoigekifgdaa
open Go.ChangeShapes Go.WideShapes Go.ChangeAt Go.RowKit Go.Sort
set_option linter.unusedVariables false

def PairEnd (xs : List Tx) (n : Int) (w : World) (e : Ending) (w' : World) : Prop := ∃ v, e = .returned (.tuple #[v, .int .i64 n]) ∧ Fresh w w' v xs ∧ Below w.heap.size w w'
theorem Fresh.thru {w0 w w' : World} {v : Value} {xs : List Tx} (h : Fresh w w' v xs) (hb : Below w0.heap.size w0 w) : Fresh w0 w' v xs := h.later hb.size
theorem below_thru {w0 w w' : World} (h : Below w.heap.size w w') (hb : Below w0.heap.size w0 w) : Below w0.heap.size w0 w' := hb.trans (h.mono hb.size)
set_option maxHeartbeats 1600000 in
theorem add_any (l ms : List Tx) (v1 v2 : Value) (hl : l.length ≤ 2199023255500) (hm : ms.length ≤ 2199023255500) (w : World) (h1 : TRow w v1 l) (h2 : TRow w v2 ms) :
    Calls Try.prog 11 #[v1, v2] w fun e w' => PairEnd (Pl.ofS (l ++ ms)) ((Pl.ofS (l ++ ms)).length - (Pl.ofS l).length) w e w' := by
  have H := Lib.hid (And.intro h1 h2)
  clear h1 h2
  have ql := Pl.ofS_length l
  have qm := Pl.ofS_length ms
  have qx := Pl.ofS_length (l ++ ms)
  rw [List.length_append] at qx
  go_enter Try.func11, Try.ntmps11
  go_wp2_with fail
  refine (mOf_any l v1 (by omega) _ H.out.1).mono ?_
  rintro e w1 ⟨a, rfl, f1, b1⟩
  obtain ⟨oa, ca, rfl, r1⟩ := f1.rowC
  have M1 := Lib.hid (And.intro f1 (And.intro b1 r1))
  clear f1 b1 r1
  go_wp2_with fail
  refine (mOf_any ms v2 (by omega) _ (H.out.2.kept M1.out.2.1)).mono ?_
  rintro e w2 ⟨b, rfl, f2, b2⟩
  obtain ⟨ob, cb, rfl, r2⟩ := f2.rowC
  have M2 := Lib.hid (And.intro f2 (And.intro b2 r2))
  clear f2 b2 r2
  go_wp2_with fail
  refine (merge_any _ _ true true true _ _ _ _ (by omega) _ (M1.out.2.2.kept M2.out.2.1) M2.out.2.2).mono ?_
  rintro e w3 ⟨c, rfl, m3, b3⟩
  rw [Pl.mg_union] at m3
  obtain ⟨oc, cc, rfl⟩ := m3.shape
  have M3 := Lib.hid (And.intro m3.fresh b3)
  clear m3 b3
  generalize hA : Pl.ofS l = A at *
  generalize hC : Pl.ofS (l ++ ms) = C at *
  have HH := Lib.hid (And.intro hA hC)
  clear hA hC
  go_wp2
  go_ret2
  obtain ⟨rfl, rfl⟩ := HH.out
  have b12 := below_thru M2.out.2.1 M1.out.2.1
  exact ⟨_, rfl, M3.out.1.thru b12, below_thru M3.out.2 b12⟩
set_option maxHeartbeats 1600000 in
theorem remove_any (l ms : List Tx) (v1 v2 : Value) (hl : l.length ≤ 2199023255500) (hm : ms.length ≤ 2199023255500) (w : World) (h1 : TRow w v1 l) (h2 : TRow w v2 ms) :
    Calls Try.prog 12 #[v1, v2] w fun e w' => PairEnd ((Pl.ofS l).filter (fun x => !ms.contains x)) ((Pl.ofS l).length - ((Pl.ofS l).filter (fun x => !ms.contains x)).length) w e w' := by
  have H := Lib.hid (And.intro h1 h2)
  clear h1 h2
  have ql := Pl.ofS_length l
  have qm := Pl.ofS_length ms
  have qx : ((Pl.ofS l).filter (fun x => !ms.contains x)).length ≤ (Pl.ofS l).length := List.length_filter_le _ _
  go_enter Try.func12, Try.ntmps12
  go_wp2_with fail
  refine (mOf_any l v1 (by omega) _ H.out.1).mono ?_
  rintro e w1 ⟨a, rfl, f1, b1⟩
  obtain ⟨oa, ca, rfl, r1⟩ := f1.rowC
  have M1 := Lib.hid (And.intro f1 (And.intro b1 r1))
  clear f1 b1 r1
  go_wp2_with fail
  refine (mOf_any ms v2 (by omega) _ (H.out.2.kept M1.out.2.1)).mono ?_
  rintro e w2 ⟨b, rfl, f2, b2⟩
  obtain ⟨ob, cb, rfl, r2⟩ := f2.rowC
  have M2 := Lib.hid (And.intro f2 (And.intro b2 r2))
  clear f2 b2 r2
  go_wp2_with fail
  refine (merge_any _ _ true false false _ _ _ _ (by omega) _ (M1.out.2.2.kept M2.out.2.1) M2.out.2.2).mono ?_
  rintro e w3 ⟨c, rfl, m3, b3⟩
  rw [Pl.mg_diff _ _ (Pl.rising_ofS l)] at m3
  obtain ⟨oc, cc, rfl⟩ := m3.shape
  have M3 := Lib.hid (And.intro m3.fresh b3)
  clear m3 b3
  generalize hC : (Pl.ofS l).filter (fun x => !ms.contains x) = C at *
  have HC := Lib.hid hC
  clear hC
  generalize hA : Pl.ofS l = A at *
  have HA := Lib.hid hA
  clear hA
  go_wp2
  go_ret2
  have hA := HA.out
  subst hA
  have hC := HC.out
  subst hC
  have b12 := below_thru M2.out.2.1 M1.out.2.1
  exact ⟨_, rfl, M3.out.1.thru b12, below_thru M3.out.2 b12⟩

section
variable {P : Program} {o : Oper} {a : Act} {Q : Exit → Act → World → Prop} {K : Act → World → Prop}
theorem run_append_nilcap {w : World} (base : Nat) (t ty e : TypeId) (i : TypeInfo) (size c : Nat) (ht : P.underlying t = some (.slice e)) (hi : P.info? e = some i)
    (v : Value) (n : Nat) (xs : List Value) (hown : w.ownsRow base e size v n xs) :
    (Builtin.append_ #[t, t] ty #[v, .slice none 0 c]).run P w = .ok v w := by
  rcases hown.2 with ⟨rfl, rfl⟩ | ⟨g, cap, cur, rfl, _, _, hnc, _⟩
  · simp [Builtin.append_, run_underlying ht, sizeOf, typeInfo, hi, Builtin.lenOf, Builtin.firstCells]
  · simp [Builtin.append_, run_underlying ht, sizeOf, typeInfo, hi, Builtin.lenOf, Builtin.firstCells, hnc, storeCells]
/-- A row of texts behind a row of the call's own. -/
theorem wp_append_row {w0 w : World} (s x : Operand) (ho : o.op = .call { callee := .builtin .append, args := #[s, x], argTypes := #[22, 22] })
    (xs ts : List Tx) (v u : Value) (hs : a.eval s = v) (hx : a.eval x = u) (hM : Made w0 w v xs) (hu : TRow w u ts) (hb : Below w0.heap.size w0 w) (hn : xs.length + ts.length ≤ 8796093022200)
    (h : ∀ v' w', Made w0 w' v' (xs ++ ts) → Below w0.heap.size w0 w' → (v.ownBlock = none → Below w.heap.size w w') → K (a.put o.dst v') w') : o.wp Try.prog a w K Q := by
  obtain ⟨i, hi, hz, hsz, hby⟩ := info_parts infoS
  obtain ⟨ao, cp, rfl, hh⟩ := hu.open
  have out : ∀ v' w', w'.ownsRow w0.heap.size 9 1 v' (xs.length + ts.length) (xs.map strV ++ ts.map strV) → w.grownBy w' v.ownBlock → K (a.put o.dst v') w' := fun v' w' hown hg =>
    h v' w' (Made.of (n := xs.length + ts.length) (by rw [List.map_append]; exact hown)) (hb.grown hg hb.size fun k hk => (hM.owns.lt k hk).1) (fun hv => (Below.refl _ _).grown hg (Nat.le_refl _) fun k hk => by rw [hv] at hk; simp at hk)
  have some_case : ∀ ad : Addr, ao = some ad → (∀ j u, (ts.map strV)[j]? = some u → w.cell? (ad.add j) = some u) → o.wp Try.prog a w K Q := fun ad e hc => by
    subst e
    exact wp_append_own w s x _ ho w0.heap.size 9 i _ 1 16 Try.underlying22 hi hz hsz hby rfl (by omega) v xs.length (xs.map strV) hs hM.owns ad ts.length cp (ts.map strV) hx (by simp) hc (by
      intro u hu
      obtain ⟨t, _, rfl⟩ := List.mem_map.1 hu
      rfl) (by unfold maxLen; omega) (by omega) hb.size fun v' w' h2 h3 _ => out v' w' h2 h3
  rcases hh with rfl | ⟨g, off, rfl, hg, hc⟩
  · rcases ao with _ | ad
    · have hrun := run_append_nilcap (P := Try.prog) (w := w) w0.heap.size 22 o.type 9 i 1 cp Try.underlying22 hi v xs.length (xs.map strV) hM.owns
      have hk := h v w (by rw [List.append_nil]; exact hM) hb (fun _ => Below.refl _ _)
      unfold Oper.wp
      simp [execOp, ho, resolve, invoke, builtin, hs, hx, hrun, Result.andThen]
      exact hk
    · exact some_case ad rfl (by simp)
  · refine some_case _ rfl fun j u hu => ?_
    obtain ⟨t, ht, rfl⟩ : ∃ t, ts[j]? = some t ∧ strV t = u := by simpa using hu
    rw [add_plain]
    exact hc j t ht
theorem wpList_append_row {w0 w : World} {ops : Array Oper} {rest : List Oper} (hgd : o.guard = none) (s x : Operand) (ho : o.op = .call { callee := .builtin .append, args := #[s, x], argTypes := #[22, 22] })
    (xs ts : List Tx) (v u : Value) (hs : a.eval s = v) (hx : a.eval x = u) (hM : Made w0 w v xs) (hu : TRow w u ts) (hb : Below w0.heap.size w0 w) (hn : xs.length + ts.length ≤ 8796093022200)
    (h : ∀ v' w', Made w0 w' v' (xs ++ ts) → Below w0.heap.size w0 w' → (v.ownBlock = none → Below w.heap.size w w') → wpList Try.prog ops Q rest (a.put o.dst v') w') : wpList Try.prog ops Q (o :: rest) a w :=
  wpList_plain hgd fun _ hK => wp_append_row s x ho xs ts v u hs hx hM hu hb hn fun v' w' h1 h2 h3 => hK _ _ (h v' w' h1 h2 h3)
theorem step_append_row {w0 w : World} {ops : Array Oper} {E : Prop} (hgd : o.guard = none) (s x : Operand) (ho : o.op = .call { callee := .builtin .append, args := #[s, x], argTypes := #[22, 22] })
    (xs ts : List Tx) (v u : Value) (hs : a.eval s = v) (hx : a.eval x = u) (hM : Made w0 w v xs) (hu : TRow w u ts) (hb : Below w0.heap.size w0 w) (hn : xs.length + ts.length ≤ 8796093022200)
    (h : ∀ v' w', Made w0 w' v' (xs ++ ts) → Below w0.heap.size w0 w' → (v.ownBlock = none → Below w.heap.size w w') → K (a.put o.dst v') w') :
    if Region.wanted o (yielded ops a.tmps) = true then Oper.wp Try.prog o a w K Q else E := by
  have hw : Region.wanted o (yielded ops a.tmps) = true := by simp [Region.wanted, hgd]
  rw [if_pos hw]
  exact wp_append_row s x ho xs ts v u hs hx hM hu hb hn h
end
set_option maxHeartbeats 1600000 in
theorem refAdd_any (l ms : List Tx) (v1 v2 : Value) (hl : l.length ≤ 2199023255500) (hm : ms.length ≤ 2199023255500) (w : World) (h1 : TRow w v1 l) (h2 : TRow w v2 ms) :
    Calls Try.prog 13 #[v1, v2] w fun e w' => PairEnd (Pl.ofS (l ++ ms)) ((Pl.ofS (l ++ ms)).length - (Pl.ofS l).length) w e w' := by
  have H := Lib.hid (And.intro h1 h2)
  clear h1 h2
  have ql := Pl.ofS_length l
  have qm := Pl.ofS_length ms
  have qx := Pl.ofS_length (l ++ ms)
  rw [List.length_append] at qx
  go_enter Try.func13, Try.ntmps13
  go_wp2_with (first | (at_builtin; refine wpList_append_row (w0 := w) rfl _ _ rfl [] l _ v1 rfl rfl (Made.nil _ _) H.out.1 (Below.refl _ _) (by simp; omega) ?_; intro va wa ma ba _; have MA := Lib.hid (And.intro ma ba); clear ma ba) | (at_builtin; refine wpList_append_row (w0 := w) rfl _ _ rfl ([] ++ l) ms va v2 rfl rfl MA.out.1 (H.out.2.kept MA.out.2) MA.out.2 (by simp; omega) ?_; intro vb wb mb bb _; have MB := Lib.hid (And.intro mb bb); clear mb bb))
  go_wp2_with fail
  refine (refOf_any (l ++ ms) vb (by simp; omega) _ MB.out.1.trow).mono ?_
  rintro e w2 ⟨a, rfl, m2, b2⟩
  obtain ⟨oa, ca, rfl⟩ := m2.shape
  have M2 := Lib.hid (And.intro (m2.fresh.thru MB.out.2) (below_thru b2 MB.out.2))
  clear m2 b2
  go_wp2_with fail
  refine (refOf_any l v1 (by omega) _ (H.out.1.kept M2.out.2)).mono ?_
  rintro e w3 ⟨b, rfl, m3, b3⟩
  obtain ⟨ob, cb, rfl⟩ := m3.shape
  have M3 := Lib.hid (And.intro (M2.out.1.kept b3) (below_thru b3 M2.out.2))
  clear m3 b3
  generalize hA : Pl.ofS l = A at *
  generalize hC : Pl.ofS (l ++ ms) = C at *
  have HH := Lib.hid (And.intro hA hC)
  clear hA hC
  go_wp2
  go_ret2
  obtain ⟨rfl, rfl⟩ := HH.out
  exact ⟨_, rfl, M3.out.1, M3.out.2⟩
end Go.Proofs.Ytjceoigekifgdaa
