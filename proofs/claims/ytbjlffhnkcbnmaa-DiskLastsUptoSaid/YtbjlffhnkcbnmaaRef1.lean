/- The document's disk: rows of names; find, without. -/
import Derived.Test.YtbjlffhnkcbnmaaDsk2
import Derived.Test.YtbjlffhnkcbnmaaStrs
import Derived.Sort.Walk0
import Derived.Deep.QuietTactic
import Derived.BigQuiet
namespace Go.Proofs.Ytbjlffhnkcbnmaa
open Go.ChangeShapes Go.WideShapes Go.ChangeAt Go.RowKit Pl
set_option linter.unusedVariables false

section
variable {P : Program} {ops : Array Oper} {rest : List Oper} {o : Oper} {a : Act} {Q : Exit → Act → World → Prop}
/-- 'out = append(out, x)', one element of two cells. -/
theorem wpList_append_two (w : World) (hgd : o.guard = none) (s x : Operand) (t : TypeId) (ho : o.op = .call { callee := .builtin .append, args := #[s, x], argTypes := #[t, t] })
    (base : Nat) (e : TypeId) (z : Value) (bytes : Nat) (ht : P.underlying t = some (.slice e)) (hinfo : (P.info? e).map (fun i => (i.zero, i.size, i.bytes)) = some (some z, 2, bytes)) (hzs : z.cells.size = 2)
    (v : Value) (n : Nat) (xs : List Value) (hs : a.eval s = v) (hown : w.ownsRow base e 2 v n xs)
    (u u2 : Value) (h1 : u.oneCell' = true) (h2 : u2.oneCell' = true) (hx : a.eval x = .slice (some ⟨w.heap.size, 0, none⟩) 1 1)
    (h63 : n + 1 ≤ maxLen) (hbytes : (n + 1) * bytes ≤ 140737488355328) (hbase : base ≤ w.heap.size)
    (h : ∀ v' w', w'.ownsRow base e 2 v' (n + 1) (xs ++ [u, u2]) → w.grownBy w' v.ownBlock → (∀ (W : World) (B : Nat), Below B W w → B ≤ base → Below B W w') → wpList P ops Q rest (a.put o.dst v') w') :
    wpList P ops Q (o :: rest) a (w.alloc (.cells #[u, u2] e)) := by
  obtain ⟨i, hi, hz, hsz, hby⟩ := info_parts hinfo
  refine wpList_append_own _ hgd s x t ho base e i z 2 bytes ht hi hz hsz hby hzs (by omega) v n xs hs (hown.alloc _) ⟨w.heap.size, 0, none⟩ 1 1 [u, u2] hx rfl ?_ (by simp [h1, h2]) h63 hbytes (by simp; omega) ?_
  · intro j y hj
    have hadd : (⟨w.heap.size, 0, none⟩ : Addr).add j = ⟨w.heap.size, j, none⟩ := by unfold Addr.add; split <;> simp_all
    rw [hadd]
    rcases j with _ | _ | j
    · simp at hj; subst hj; exact World.cell?_alloc_mark _ _ _ _ _
    · simp at hj; subst hj; exact World.cell?_alloc_mark _ _ _ _ _
    · simp at hj
  intro v' w' hown' hg _
  have hg2 : w.grownBy w' v.ownBlock := World.grownBy.trans (World.grownBy_alloc w _ _) hg
  refine h v' w' hown' hg2 fun W B hb hB => hb.grown hg2 ?_ fun k hk => ?_
  · omega
  · have := (hown.lt k hk).1; omega
end
theorem infoName : (Try.prog.info? 102).map (fun i => (i.zero, i.size, i.bytes)) = some (some (.agg #[.string ⟨#[]⟩, .int .i64 0]), 2, 24) := by kernel_rfl
/-- The cells of names, one behind the other. -/
def nmCells (p : Tx × Nat) : List Value := [strV p.1, .int .i64 p.2]
def nmRow (l : Nm) : List Value := l.flatMap nmCells
theorem nmRow_snoc (l : Nm) (p : Tx × Nat) : nmRow (l ++ [p]) = nmRow l ++ [strV p.1, .int .i64 p.2] := by simp [nmRow, nmCells]
theorem nmRow_len (l : Nm) : (nmRow l).length = l.length * 2 := by
  induction l with
  | nil => rfl
  | cons p r ih => unfold nmRow at ih ⊢; rw [List.flatMap_cons, List.length_append, ih]; simp [nmCells]; omega
theorem nmRow_get : ∀ {l : Nm} {j : Nat} {p : Tx × Nat}, l[j]? = some p → (nmRow l)[j * 2]? = some (strV p.1) ∧ (nmRow l)[j * 2 + 1]? = some (.int .i64 p.2)
  | [], j, p, h => by simp at h
  | q :: r, 0, p, h => by simp at h; subst h; exact ⟨rfl, rfl⟩
  | q :: r, j + 1, p, h => by
    obtain ⟨h1, h2⟩ := nmRow_get (l := r) (j := j) (p := p) (by simpa using h)
    have e : ∀ i, (nmRow (q :: r))[(j + 1) * 2 + i]? = (nmRow r)[j * 2 + i]? := fun i => by
      rw [show nmRow (q :: r) = nmCells q ++ nmRow r by simp [nmRow], List.getElem?_append_right (by simp [nmCells]; omega)]
      congr 1; simp [nmCells]; omega
    exact ⟨(e 0).trans h1, (e 1).trans h2⟩
/-- A row of names. -/
def NRow (w : World) (F : Nat → Prop) (v : Value) (l : Nm) : Prop := RowC w F 102 2 v l.length (nmRow l)
theorem NRow.shape {w : World} {F : Nat → Prop} {v : Value} {l : Nm} (h : NRow w F v l) : ∃ ao cp, v = .slice ao l.length cp := RowC.shape h
theorem NRow.at_ {w : World} {F : Nat → Prop} {ao : Option Addr} {n cp : Nat} {l : Nm} (h : NRow w F (.slice ao n cp) l) {j : Nat} {p : Tx × Nat} (hp : l[j]? = some p) :
    ∃ g, ao = some ⟨g, 0, none⟩ ∧ F g ∧ g < w.heap.size ∧ w.cell? ⟨g, j * 2, none⟩ = some (.string (str p.1)) ∧ w.cell? ⟨g, j * 2 + 1, none⟩ = some (.int .i64 p.2) := by
  have hj := (List.getElem?_eq_some_iff.1 hp).1
  obtain ⟨g, c, e, hF, hg, -, hc⟩ := RowC.at_ h (by omega) (by omega)
  simp only [Value.slice.injEq] at e
  obtain ⟨h1, h2⟩ := nmRow_get hp
  exact ⟨g, e.1, hF, hg, hc _ _ h1, hc _ _ h2⟩
theorem NRow.kept {w w' : World} {F G : Nat → Prop} {v : Value} {l : Nm} (h : NRow w F v l) (hw : Wr G w w') (hFG : ∀ k, F k → ¬ G k) : NRow w' F v l := RowC.kept h hw hFG
theorem NRow.mono {w : World} {F G : Nat → Prop} {v : Value} {l : Nm} (h : NRow w F v l) (hFG : ∀ k, F k → G k) : NRow w G v l := RowC.mono h hFG
theorem drop_at {α : Type} {l : List α} {k : Nat} {x : α} (h : l[k]? = some x) : l.drop k = x :: l.drop (k + 1) := by
  obtain ⟨h1, h2⟩ := List.getElem?_eq_some_iff.1 h
  rw [List.drop_eq_getElem_cons h1, h2]
theorem find_cons_ne {p : Tx × Nat} {r : Nm} {n : Tx} (h : p.1 ≠ n) : find (p :: r) n = find r n := by
  conv => lhs; unfold find
  rw [if_neg h]
theorem find_cons_eq {p : Tx × Nat} {r : Nm} {n : Tx} (h : p.1 = n) : find (p :: r) n = some p.2 := by
  unfold find
  rw [if_pos h]
def foundV (o : Option Nat) : Int := match o with
  | some f => f
  | none => -1
theorem refFind_any {w : World} {F : Nat → Prop} {v : Value} {l : Nm} (h : NRow w F v l) (hl : l.length ≤ 4194304) (n : Tx) :
    Calls Try.prog 63 #[v, .string (str n)] w fun e w' => e = .returned (.int .i64 (foundV (find l n))) ∧ w = w' := by
  obtain ⟨ao, cp, rfl⟩ := h.shape
  have H := Lib.hid h
  clear h
  go_enter Try.func63, Try.ntmps63
  go_wp2
  go_loop [5] (fun i => ∃ k : Nat, k ≤ l.length ∧ i = .int .i64 k ∧ Hid (find l n = find (l.drop k) n)) (fun i => l.length - (intOf i).toNat)
  case atStart => exact ⟨0, Nat.zero_le _, rfl, by show _ = _; simp⟩
  case round =>
    obtain ⟨k, hk, rfl, hf⟩ := hrel
    by_cases hlt : k < l.length
    · obtain ⟨p, hp⟩ : ∃ p, l[k]? = some p := ⟨_, List.getElem?_eq_getElem hlt⟩
      obtain ⟨g, rfl, hF, hg, h0, h1⟩ := H.out.at_ hp
      have hd := drop_at hp
      have hkI : (k : Int) < (l.length : Int) := by omega
      have hk0 : (0 : Int) ≤ (k : Int) := by omega
      by_cases he : p.1 = n
      · have hb : ((str p.1).toList == (str n).toList) = true := by rw [eq_str, decide_eq_true he]
        have HE := Lib.hid (show foundV (find l n) = (p.2 : Int) from by rw [hf.out, hd, find_cons_eq he]; rfl)
        clear he hd hp
        go_wp2
        go_ret
        exact ⟨by rw [HE.out]; rfl, rfl⟩
      · have hb : ((str p.1).toList == (str n).toList) = false := by rw [eq_str, decide_eq_false he]
        have hst : find l n = find (l.drop (k + 1)) n := by
          rw [hf.out, hd]
          exact find_cons_ne he
        have HE := Lib.hid hst
        clear hst
        clear he hd hp
        go_wp2
        go_round
        case rel => exact ⟨k + 1, by omega, by go_num, HE.out⟩
        case measure => simp [intOf]; omega
    · obtain rfl : k = l.length := by omega
      have HE := Lib.hid (show foundV (find l n) = -1 from by rw [hf.out, List.drop_length]; rfl)
      go_wp2
      go_ret
      exact ⟨by rw [HE.out]; rfl, rfl⟩
/-- What a call makes that writes nothing old. -/
def MadeN (B : Nat) (l : Nm) (w : World) (e : Ending) (w' : World) : Prop := ∃ v, e = .returned v ∧ w'.ownsRow B 102 2 v l.length (nmRow l) ∧ Below B w w'
theorem wo_take {l : Nm} {k : Nat} {p : Tx × Nat} (hp : l[k]? = some p) (n : Tx) : wo (l.take (k + 1)) n = wo (l.take k) n ++ (if p.1 = n then [] else [p]) := by
  rw [List.take_add_one, hp]
  unfold wo
  rw [List.filter_append]
  congr 1
  by_cases h : p.1 = n <;> simp [h]
theorem refWithout_any {w : World} {F : Nat → Prop} {v : Value} {l : Nm} (h : NRow w F v l) (hl : l.length ≤ 4194304) (n : Tx) :
    Calls Try.prog 59 #[v, .string (str n)] w (MadeN w.heap.size (wo l n) w) := by
  obtain ⟨ao, cp, rfl⟩ := h.shape
  have H := Lib.hid (show NRow w (fun k => F k ∧ k < w.heap.size) (.slice ao l.length cp) l from ⟨h.1, fun g hg => ⟨h.2 g hg, (h.1.lt g hg).2⟩⟩)
  clear h
  go_enter Try.func59, Try.ntmps59
  go_wp2
  go_loopw [5, 6] (fun o i wr => ∃ (k : Nat) (ov : Value), k ≤ l.length ∧ i = .int .i64 k ∧ ov = o ∧ Hid (wr.ownsRow w.heap.size 102 2 ov (wo (l.take k) n).length (nmRow (wo (l.take k) n))) ∧ Hid (Below w.heap.size w wr)) (fun _ i _ => l.length - (intOf i).toNat)
  case atStart => exact ⟨0, _, Nat.zero_le _, rfl, rfl, by show World.ownsRow _ _ _ _ _ _ _; rw [List.take_zero]; exact World.ownsRow_nil _ _ _ _, Below.refl _ _⟩
  case round =>
    obtain ⟨k, ov, hk, rfl, rfl, hr, hw⟩ := hrel
    obtain ⟨wk, hwk⟩ : ∃ wk, wk = wr := ⟨_, rfl⟩
    subst hwk
    have hsz := hw.out.size
    by_cases hlt : k < l.length
    · obtain ⟨p, hp⟩ : ∃ p, l[k]? = some p := ⟨_, List.getElem?_eq_getElem hlt⟩
      obtain ⟨g, rfl, hF, hg, h0, h1⟩ := (H.out.kept (Wr.of_below (F := fun _ => False) hw.out) (fun _ _ h => h)).at_ hp
      have hkI : (k : Int) < (l.length : Int) := by omega
      have hk0 : (0 : Int) ≤ (k : Int) := by omega
      have hwt := wo_take hp n
      by_cases he : p.1 = n
      · have hb : ((str p.1).toList == (str n).toList) = true := by rw [eq_str, decide_eq_true he]
        rw [if_pos he, List.append_nil] at hwt
        have HE := Lib.hid hwt
        clear he hp hwt
        go_wp2
        go_roundw
        case rel => exact ⟨k + 1, _, by omega, by go_num, rfl, by show World.ownsRow _ _ _ _ _ _ _; rw [HE.out]; exact hr.out, hw.out⟩
        case measure => simp [intOf]; omega
      · have hb : ((str p.1).toList == (str n).toList) = false := by rw [eq_str, decide_eq_false he]
        rw [if_neg he] at hwt
        have HE := Lib.hid hwt
        have hle : (wo (l.take k) n).length ≤ 4194304 := by
          refine Nat.le_trans (List.length_filter_le _ _) ?_
          rw [List.length_take]; omega
        clear he hp hwt
        obtain ⟨M, hM⟩ : ∃ M, wo (l.take k) n = M := ⟨_, rfl⟩
        rw [hM] at hr HE hle
        go_wp2_with (at_builtin; refine wpList_append_two wk rfl (.tmp 20) (.tmp 25) 49 rfl w.heap.size 102 _ 24 Try.underlying49 infoName rfl ov M.length (nmRow M) rfl hr.out (.string (str p.1)) (.int .i64 p.2) rfl rfl (by simp [Act.eval]) (by unfold maxLen; omega) (by omega) hsz ?_)
        intro v2 w2 hown2 hg2 hB2
        have HO := Lib.hid hown2
        have HB := Lib.hid (hB2 w _ hw.out (Nat.le_refl _))
        clear hown2 hg2 hB2
        go_wp2
        go_roundw
        case rel => exact ⟨k + 1, _, by omega, by go_num, rfl, by show World.ownsRow _ _ _ _ _ _ _; rw [HE.out, List.length_append, nmRow_snoc]; exact HO.out, HB.out⟩
        case measure => simp [intOf]; omega
    · obtain rfl : k = l.length := by omega
      go_wp2
      go_ret
      exact ⟨_, rfl, by have := hr.out; rw [List.take_length] at this; exact this, hw.out⟩
end Go.Proofs.Ytbjlffhnkcbnmaa
