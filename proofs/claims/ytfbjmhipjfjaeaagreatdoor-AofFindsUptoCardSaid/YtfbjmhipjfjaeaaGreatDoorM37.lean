/- covenantlaw26: lives behind lives. -/
import Derived.Test.YtfbjmhipjfjaeaaGreatDoorM35
namespace Go.Proofs.YtfbjmhipjfjaeaaGreatDoor
open Go.ChangeShapes Go.WideShapes Go.ChangeAt Go.RowKit Go.Maps Pl
set_option linter.unusedVariables false
set_option linter.unusedSimpArgs false
section
variable {o : Oper} {a : Act} {Q : Exit → Act → World → Prop}
/-- Texts behind a row of the call's own. -/
theorem wpList_append_told {w0 w : World} {ops : Array Oper} {rest : List Oper} (hgd : o.guard = none) (s x : Operand) (ho : o.op = .call { callee := .builtin .append, args := #[s, x], argTypes := #[23, 23] })
    (xs ts : List Tx) (v u : Value) (hs : a.eval s = v) (hx : a.eval x = u) (hM : Texts w w0.heap.size v xs) (hu : TAt w u ts) (hb : Below w0.heap.size w0 w) (hn : xs.length + ts.length ≤ 8388608)
    (h : ∀ v' w', Texts w' w0.heap.size v' (xs ++ ts) → Below w0.heap.size w0 w' → wpList Tryz.prog ops Q rest (a.put o.dst v') w') : wpList Tryz.prog ops Q (o :: rest) a w := by
  refine wpList_plain hgd fun K hK' => ?_
  obtain ⟨i, hi, hz, hsz, hby⟩ := info_parts infoS
  obtain ⟨ao, cp, rfl, hh⟩ := hu
  have out : ∀ v' w', w'.ownsRow w0.heap.size 9 1 v' (xs.length + ts.length) ((xs.map fun t => Value.string (str t)) ++ ts.map fun t => Value.string (str t)) → w.grownBy w' v.ownBlock → K (a.put o.dst v') w' := fun v' w' hown hg =>
    hK' _ _ (h v' w' (by unfold Texts; rw [List.length_append, List.map_append]; exact hown) (hb.grown hg hb.size fun k hk => (World.ownsRow.lt hM k hk).1))
  have some_case : ∀ ad : Addr, ao = some ad → (∀ j u, (ts.map fun t => Value.string (str t))[j]? = some u → w.cell? (ad.add j) = some u) → o.wp Tryz.prog a w K Q := fun ad e hc => by
    subst e
    exact wp_append_own w s x _ ho w0.heap.size 9 i _ 1 16 Tryz.underlying23 hi hz hsz hby rfl (by omega) v xs.length _ hs hM ad ts.length cp (ts.map fun t => Value.string (str t)) hx (by simp) hc (by
      intro u hu
      obtain ⟨t, _, rfl⟩ := List.mem_map.1 hu
      rfl) (by unfold maxLen; omega) (by omega) hb.size fun v' w' h2 h3 _ => out v' w' h2 h3
  rcases hh with rfl | ⟨g, off, rfl, hg, hc⟩
  · rcases ao with _ | ad
    · have hrun := run_append_nilf (P := Tryz.prog) (w := w) w0.heap.size 23 o.type 9 i 1 cp Tryz.underlying23 hi v xs.length _ hM
      have hk := hK' _ _ (h v w (by rw [List.append_nil]; exact hM) hb)
      unfold Oper.wp
      simp [execOp, ho, resolve, invoke, builtin, hs, hx, hrun, Result.andThen]
      exact hk
    · exact some_case ad rfl (by simp)
  · refine some_case _ rfl fun j u hu => ?_
    obtain ⟨t, ht, rfl⟩ : ∃ t, ts[j]? = some t ∧ Value.string (str t) = u := by simpa using hu
    rw [add_plain]
    exact hc j t ht
end
theorem DW.narrow {P : Nat → Prop} {w : World} {b : Nat} {a : Addr} {S : Dk} (h : DW P w b a S) : DW (fun k => P k ∧ ¬ StrBlk w k) w b a S := ⟨h.one.narrow, h.sent, fun k hk => h.n1 k hk.1, h.three⟩
namespace Pl
/-- A disk that Open is for: a new one, or one with a log's file. -/
def Ready (S : Dk) (all : List Tx) (lo : Nat) (calm : Bool) : Prop :=
  (S = Dk.new ∧ all = [] ∧ lo = 0 ∧ calm = false) ∨ ∃ g F f bs m, Found S all lo g F f bs m ∧ (calm = true → F.text = logF f bs ∧ f - 1 + bs.length = all.length)
theorem strip_ge (t : Tx) : t.length ≤ (strip t).length + 1 := by
  unfold strip
  split
  · simp
  · omega
theorem sum_whole (ts : List Tx) : (ts.map List.length).sum ≤ (wholeB ts).length + ts.length := by
  induction ts with
  | nil => simp
  | cons t r ih =>
    have := strip_ge t
    simp only [wholeB, List.flatMap_cons, List.length_append, List.map_cons, List.sum_cons, List.length_cons] at ih ⊢
    omega
theorem sum_take (ts : List Tx) (n : Nat) : ((ts.take n).map List.length).sum ≤ (ts.map List.length).sum := by
  have e : (ts.map List.length).sum = ((ts.take n).map List.length).sum + ((ts.drop n).map List.length).sum := by rw [← List.sum_append, ← List.map_append, List.take_append_drop]
  omega
theorem small_texts {T : Dk} {i : Nat} (hT : T.Small i) (hi : i ≤ 4194000) : ∀ x ∈ T.files, x.text.length ≤ 140737488351232 := fun x hx => by
  have h1 := hT.texts x hx
  have h2 : i * 33554432 ≤ 4194000 * 33554432 := Nat.mul_le_mul_right _ hi
  exact Nat.le_trans h1 (Nat.le_trans h2 (by decide))
theorem Ready.opens {S : Dk} {all : List Tx} {lo : Nat} {calm : Bool} (h : Ready S all lo calm) (hI : S.Inv) {j : Nat} (hS : S.Small j) (hj : j ≤ 4190000) :
    (Pl.clean S).2 = 0 ∧ ∃ (last : Nat) (R : Dk) (bs : List Tx) (cut size : Int), Opn (Pl.clean S).1 (R, 0) bs cut size last ∧ lo ≤ last ∧ last ≤ all.length ∧ (calm = true → last = all.length) ∧ wholeB bs = wholeB (all.take last) ∧ bs.length ≤ all.length ∧
      (∀ pol every, ∃ g F f bs m, Alive R ⟨pol, every, last, last, size, false, false⟩ (all.take last) g F f bs m) ∧ 0 ≤ size ∧ size ≤ 281474976710656 := by
  rcases h with ⟨rfl, rfl, rfl, rfl⟩ | ⟨g, F, f, bs, m, fo, hc⟩
  · exact ⟨by rw [su_clean0], 0, su4 (headT 1), [], 0, 16, su_open0, Nat.le_refl _, Nat.le_refl _, fun hx => (by cases hx), rfl, Nat.le_refl _, fun pol every => ⟨_, _, _, _, _, first_alive pol every⟩, by decide, by decide⟩
  · obtain ⟨c1, n, R, h1, h2, h3, hop, hal, -, -⟩ := fo.opens hI (small_texts hS (by omega))
    have hlow := fo.ok.low
    have hhigh := fo.ok.high
    have hl : (bs.take n).length = n := by rw [List.length_take]; omega
    have ha := hal 1 0
    have hsz : atF f bs n ≤ 140737488351232 := small_texts (hop.small (clean_small hS)) (by omega) _ (List.mem_of_getElem? ha.file)
    exact ⟨c1, f - 1 + n, R, bs.take n, _, _, hop, by omega, by omega, fun hx => (by
      obtain ⟨e1, e2⟩ := hc hx
      have := h3 e1
      omega), fo.ok.same n h1 h2, by omega, fun pol every => ⟨_, _, _, _, _, hal pol every⟩, by omega, by omega⟩
theorem InL.calmReady {L0 L : Lg} {S : Dk} {all : List Tx} {M : Int} (h : InL L0 S L all M) (hd : S.down = false) : Ready (S.planS []) all L.lasting (!L.broken) := by
  cases hb : L.broken with
  | true =>
    obtain ⟨g, F, f, bs, m, fo⟩ := h.life.core.calm h.life.inv hd
    exact .inr ⟨g, F, f, bs, m, fo, fun hx => by cases hx⟩
  | false =>
    obtain ⟨g, F, f, bs, m, ha⟩ := h.life.live hb
    exact .inr ⟨g, F, f, bs, m, ha.calm h.life.inv hd, fun _ => ⟨ha.exact, by rw [ha.last, ha.allN]⟩⟩
theorem InL.crashReady {L0 L : Lg} {S : Dk} {all : List Tx} {M : Int} (h : InL L0 S L all M) (k : Int) (zs : List Int) : Ready (S.crashS k zs) all L.lasting false := by
  obtain ⟨g, F, f, bs, m, fo⟩ := h.life.core.crash k zs
  exact .inr ⟨g, F, f, bs, m, fo, fun hx => by cases hx⟩
end Pl
end Go.Proofs.YtfbjmhipjfjaeaaGreatDoor
