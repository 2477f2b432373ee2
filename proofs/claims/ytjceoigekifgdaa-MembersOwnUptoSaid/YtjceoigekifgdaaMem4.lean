/- Two rows gone through together. -/
import Derived.Test.YtjceoigekifgdaaMem3
namespace Go.Proofs.Ytjceoigekifgdaa
open Go.ChangeShapes Go.WideShapes Go.ChangeAt Go.RowKit Go.Sort
set_option linter.unusedVariables false

/-- The cells of a slice, and its room. -/
def RowC (w : World) (oa : Option Addr) (ca : Nat) (ts : List Tx) : Prop :=
  ts.length ≤ ca ∧ ca ≤ maxLen ∧ (ts = [] ∨ ∃ g off, oa = some ⟨g, off, none⟩ ∧ g < w.heap.size ∧ ∀ j x, ts[j]? = some x → w.cell? ⟨g, off + j, none⟩ = some (.string (str x)))
theorem RowC.nil (w : World) (oa : Option Addr) (ca : Nat) (h : ca ≤ maxLen) : RowC w oa ca [] := ⟨Nat.zero_le _, h, .inl rfl⟩
theorem RowC.kept {w w' : World} {oa : Option Addr} {ca : Nat} {ts : List Tx} (h : RowC w oa ca ts) (hb : Below w.heap.size w w') : RowC w' oa ca ts := by
  refine ⟨h.1, h.2.1, h.2.2.imp id ?_⟩
  rintro ⟨g, off, rfl, hg, hc⟩
  exact ⟨g, off, rfl, Nat.lt_of_lt_of_le hg hb.size, fun j x hx => (hb.cell (by exact hg)).trans (hc j x hx)⟩
theorem Fresh.rowC {w w' : World} {v : Value} {xs : List Tx} (h : Fresh w w' v xs) : ∃ ao cp, v = .slice ao xs.length cp ∧ RowC w' ao cp xs := by
  have ht := h.trow.open
  obtain ⟨ao, cp, rfl, hh⟩ := h
  obtain ⟨a2, c2, e, ht⟩ := ht
  rw [Value.slice.injEq] at e
  obtain ⟨rfl, _, rfl⟩ := e
  refine ⟨ao, cp, rfl, ?_, ?_, ht⟩
  · rcases hh with ⟨_, rfl, _⟩ | ⟨_, _, _, _, _, h1, _⟩
    · exact Nat.zero_le _
    · exact h1
  · rcases hh with ⟨_, _, rfl⟩ | ⟨_, _, _, _, _, _, _, h3, _⟩
    · exact Nat.zero_le _
    · exact h3
def lenV : Value → Nat
  | .slice _ n _ => n
  | _ => 0
theorem grownT {w w5 : World} {v5 : Value} {L : List Tx} {x : Tx} (h : w5.ownsRow w.heap.size 9 1 v5 (L.length + 1) (L.map strV ++ [.string (str x)])) (hb : Below w.heap.size w w5) : ∃ a5 c5, v5 = .slice a5 (L.length + 1) c5 ∧ Hid (Made w w5 (.slice a5 (L.length + 1) c5) (L ++ [x]) ∧ Below w.heap.size w w5) := by
  have hM : Made w w5 v5 (L ++ [x]) := Made.of (n := L.length + 1) (by rw [List.map_append]; exact h)
  obtain ⟨a5, c5, e⟩ := hM.shape
  rw [List.length_append] at e
  exact ⟨a5, c5, e, by rw [e] at hM; exact hM, hb⟩
theorem RowC.tail {w : World} {g off ca : Nat} {x : Tx} {xs : List Tx} (h : RowC w (some ⟨g, off, none⟩) ca (x :: xs)) : RowC w (if ca = 1 then some ⟨g, off, none⟩ else some ⟨g, off + 1, none⟩) (ca - 1) xs := by
  obtain ⟨h1, h2, h3⟩ := h
  rw [List.length_cons] at h1
  refine ⟨by omega, by omega, ?_⟩
  rcases h3 with h3 | ⟨g', off', e, hg, hc⟩
  · simp at h3
  · simp only [Option.some.injEq, Addr.mk.injEq, and_true] at e
    obtain ⟨rfl, rfl⟩ := e
    by_cases e : xs = []
    · exact .inl e
    · have : 0 < xs.length := List.length_pos_iff.2 e
      right
      rw [if_neg (by omega)]
      refine ⟨g, off + 1, rfl, hg, fun j z hz => ?_⟩
      rw [show off + 1 + j = off + (j + 1) by omega]
      exact hc (j + 1) z (by simpa using hz)
set_option maxHeartbeats 6400000 in
set_option maxRecDepth 100000 in
theorem merge_any (l r : List Tx) (f b s : Bool) (oa ob : Option Addr) (ca cb : Nat) (hn : l.length + r.length ≤ 4398046511000) (w : World) (h1 : RowC w oa ca l) (h2 : RowC w ob cb r) :
    Calls Try.prog 34 #[.slice oa l.length ca, .slice ob r.length cb, .bool f, .bool b, .bool s] w fun e w' => MadeEnd (Pl.mg f b s l r) w e w' := by
  have H := Lib.hid (And.intro h1 h2)
  clear h1 h2
  go_enter Try.func34, Try.ntmps34
  go_wp2
  go_loopw [0, 1, 11] (fun va vb vo wr => ∃ (la lb acc : List Tx) (oa : Option Addr) (ca : Nat) (ob : Option Addr) (cb : Nat) (ov : Option Addr) (cv : Nat), va = .slice oa la.length ca ∧ vb = .slice ob lb.length cb ∧ vo = .slice ov acc.length cv ∧ acc.length + la.length + lb.length ≤ 4398046511000 ∧ Hid (RowC w oa ca la ∧ RowC w ob cb lb) ∧ Hid (Made w wr (.slice ov acc.length cv) acc ∧ Below w.heap.size w wr) ∧ Hid (acc ++ Pl.mg f b s la lb = Pl.mg f b s l r)) (fun va vb _ _ => lenV va + lenV vb)
  case atStart => exact ⟨l, r, [], oa, ca, ob, cb, none, 0, rfl, rfl, rfl, by simpa using hn, H.out, ⟨Made.nil _ _, Below.refl _ _⟩, rfl⟩
  case round =>
    clear H hn
    obtain ⟨la, lb, acc, oa, ca, ob, cb, ov, cv, rfl, rfl, rfl, hN, HR, HM, HE⟩ := hrel
    have MQ : ∀ n, Hid (Made w (wr.drewN n) (.slice ov acc.length cv) acc ∧ Below w.heap.size w (wr.drewN n)) := fun N => ⟨HM.out.1.drewN N, below_drewN HM.out.2 N⟩
    rcases la with _ | ⟨x, xs⟩
    · rcases lb with _ | ⟨y, ys⟩
      · clear MQ
        go_wp2
        go_ret
        have := HE.out
        rw [Pl.mg, List.append_nil] at this
        exact ⟨_, rfl, this ▸ HM.out.1, HM.out.2⟩
      · skip
        obtain ⟨h1b, h2b, h3b⟩ := HR.out.2
        rcases h3b with h3b | ⟨gb, offb, rfl, hgb, hcb⟩
        · simp at h3b
        have c1 := hcb 0 y rfl
        simp only [Nat.add_zero] at c1
        have c1r : wr.cell? ⟨gb, offb, none⟩ = some (.string (str y)) := (HM.out.2.cell (p := ⟨gb, offb, none⟩) hgb).trans c1
        have c1n : ∀ n, (wr.drewN n).cell? ⟨gb, offb, none⟩ = some (.string (str y)) := fun n => ((MQ n).out.2.cell (p := ⟨gb, offb, none⟩) hgb).trans c1
        have qb : decide (0 < ys.length + 1) = true := by rw [decide_eq_true_iff]; omega
        have qb2 : ((ys.length : Int) + 1 == 0) = false := by rw [beq_eq_false_iff_ne]; omega
        clear hcb c1
        simp only [List.length_cons] at *
        go_wp2_with fail
        go_quiet (fail)
        go_wp2_with fail
        go_quiet (fail)
        cases s
        · go_wp2
          go_roundw
          case rel => exact ⟨[], ys, acc, _, _, _, _, _, _, rfl, rfl, rfl, by simp; omega, ⟨HR.out.1, HR.out.2.tail⟩, MQ _, by show _ = _; have := HE.out; rw [Pl.mg] at this; simpa using this⟩
          case measure => simp [lenV]
        · obtain ⟨X, hX⟩ : ∃ X, X = y := ⟨_, rfl⟩
          subst hX
          go_wp2_with (at_builtin; refine wpList_append_one _ rfl _ _ 22 rfl w.heap.size 9 (.string ⟨#[]⟩) 16 Try.underlying22 infoS rfl _ acc.length (acc.map strV) rfl (by exact (MQ _).out.1.owns) (.string (str X)) rfl rfl (by simp only [maxLen]; omega) (by omega) (by exact (MQ _).out.2.size) ?_; intro v5 w5 hown5 hg5 hbl; have hb5 := hbl w w.heap.size (by exact (MQ _).out.2) (Nat.le_refl _); clear hbl hg5; obtain ⟨a5, c5, rfl, HM5⟩ := grownT hown5 hb5; clear hown5 hb5)
          go_wp2
          go_roundw
          case rel => exact ⟨[], ys, acc ++ [X], _, _, _, _, a5, c5, rfl, rfl, by simp, by simp; omega, ⟨HR.out.1, HR.out.2.tail⟩, by simpa using HM5, by show _ = _; have := HE.out; rw [Pl.mg] at this; simpa using this⟩
          case measure => simp [lenV]
    · rcases lb with _ | ⟨y, ys⟩
      · skip
        obtain ⟨h1, h2, h3⟩ := HR.out.1
        rcases h3 with h3 | ⟨g, off, rfl, hg, hc⟩
        · simp at h3
        have c0 := hc 0 x rfl
        simp only [Nat.add_zero] at c0
        have c0r : wr.cell? ⟨g, off, none⟩ = some (.string (str x)) := (HM.out.2.cell (p := ⟨g, off, none⟩) hg).trans c0
        have c0n : ∀ n, (wr.drewN n).cell? ⟨g, off, none⟩ = some (.string (str x)) := fun n => ((MQ n).out.2.cell (p := ⟨g, off, none⟩) hg).trans c0
        have qa : decide (0 < xs.length + 1) = true := by rw [decide_eq_true_iff]; omega
        have qa2 : ((xs.length : Int) + 1 == 0) = false := by rw [beq_eq_false_iff_ne]; omega
        clear hc c0
        simp only [List.length_cons] at *
        go_wp2_with fail
        go_quiet (fail)
        cases f
        · go_wp2
          go_roundw
          case rel => exact ⟨xs, [], acc, _, _, _, _, _, _, rfl, rfl, rfl, by simp; omega, ⟨HR.out.1.tail, HR.out.2⟩, MQ _, by show _ = _; have := HE.out; rw [Pl.mg] at this; simpa using this⟩
          case measure => simp [lenV]
        · obtain ⟨X, hX⟩ : ∃ X, X = x := ⟨_, rfl⟩
          subst hX
          go_wp2_with (at_builtin; refine wpList_append_one _ rfl _ _ 22 rfl w.heap.size 9 (.string ⟨#[]⟩) 16 Try.underlying22 infoS rfl _ acc.length (acc.map strV) rfl (by exact (MQ _).out.1.owns) (.string (str X)) rfl rfl (by simp only [maxLen]; omega) (by omega) (by exact (MQ _).out.2.size) ?_; intro v5 w5 hown5 hg5 hbl; have hb5 := hbl w w.heap.size (by exact (MQ _).out.2) (Nat.le_refl _); clear hbl hg5; obtain ⟨a5, c5, rfl, HM5⟩ := grownT hown5 hb5; clear hown5 hb5)
          go_wp2
          go_roundw
          case rel => exact ⟨xs, [], acc ++ [X], _, _, _, _, a5, c5, rfl, rfl, by simp, by simp; omega, ⟨HR.out.1.tail, HR.out.2⟩, by simpa using HM5, by show _ = _; have := HE.out; rw [Pl.mg] at this; simpa using this⟩
          case measure => simp [lenV]
      · skip
        obtain ⟨h1, h2, h3⟩ := HR.out.1
        rcases h3 with h3 | ⟨g, off, rfl, hg, hc⟩
        · simp at h3
        have c0 := hc 0 x rfl
        simp only [Nat.add_zero] at c0
        have c0r : wr.cell? ⟨g, off, none⟩ = some (.string (str x)) := (HM.out.2.cell (p := ⟨g, off, none⟩) hg).trans c0
        have c0n : ∀ n, (wr.drewN n).cell? ⟨g, off, none⟩ = some (.string (str x)) := fun n => ((MQ n).out.2.cell (p := ⟨g, off, none⟩) hg).trans c0
        have qa : decide (0 < xs.length + 1) = true := by rw [decide_eq_true_iff]; omega
        have qa2 : ((xs.length : Int) + 1 == 0) = false := by rw [beq_eq_false_iff_ne]; omega
        clear hc c0
        obtain ⟨h1b, h2b, h3b⟩ := HR.out.2
        rcases h3b with h3b | ⟨gb, offb, rfl, hgb, hcb⟩
        · simp at h3b
        have c1 := hcb 0 y rfl
        simp only [Nat.add_zero] at c1
        have c1r : wr.cell? ⟨gb, offb, none⟩ = some (.string (str y)) := (HM.out.2.cell (p := ⟨gb, offb, none⟩) hgb).trans c1
        have c1n : ∀ n, (wr.drewN n).cell? ⟨gb, offb, none⟩ = some (.string (str y)) := fun n => ((MQ n).out.2.cell (p := ⟨gb, offb, none⟩) hgb).trans c1
        have qb : decide (0 < ys.length + 1) = true := by rw [decide_eq_true_iff]; omega
        have qb2 : ((ys.length : Int) + 1 == 0) = false := by rw [beq_eq_false_iff_ne]; omega
        clear hcb c1
        rcases Pl.tri x y with hc | hc | hc
        · have e1 : Op.bytesLess (str x).toList (str y).toList = true := by rw [less_str, decide_eq_true hc]
          have HC := Lib.hid hc
          clear hc
          simp only [List.length_cons] at *
          go_wp2_with fail
          go_quiet (fail)
          cases f
          · go_wp2
            go_roundw
            case rel => exact ⟨xs, y :: ys, acc, _, _, _, _, _, _, rfl, rfl, rfl, by simp; omega, ⟨HR.out.1.tail, HR.out.2⟩, MQ _, by show _ = _; have := HE.out; rw [Pl.mg, if_pos HC.out] at this; simpa using this⟩
            case measure => simp [lenV]
          · obtain ⟨X, hX⟩ : ∃ X, X = x := ⟨_, rfl⟩
            subst hX
            go_wp2_with (at_builtin; refine wpList_append_one _ rfl _ _ 22 rfl w.heap.size 9 (.string ⟨#[]⟩) 16 Try.underlying22 infoS rfl _ acc.length (acc.map strV) rfl (by exact (MQ _).out.1.owns) (.string (str X)) rfl rfl (by simp only [maxLen]; omega) (by omega) (by exact (MQ _).out.2.size) ?_; intro v5 w5 hown5 hg5 hbl; have hb5 := hbl w w.heap.size (by exact (MQ _).out.2) (Nat.le_refl _); clear hbl hg5; obtain ⟨a5, c5, rfl, HM5⟩ := grownT hown5 hb5; clear hown5 hb5)
            go_wp2
            go_roundw
            case rel => exact ⟨xs, y :: ys, acc ++ [X], _, _, _, _, a5, c5, rfl, rfl, by simp, by simp; omega, ⟨HR.out.1.tail, HR.out.2⟩, by simpa using HM5, by show _ = _; have := HE.out; rw [Pl.mg, if_pos HC.out] at this; simpa using this⟩
            case measure => simp [lenV]
        · have e1 : Op.bytesLess (str x).toList (str y).toList = false := by rw [less_str, decide_eq_false (by rw [hc]; exact Pl.ltI _)]
          have e2 : Op.bytesLess (str y).toList (str x).toList = false := by rw [less_str, decide_eq_false (by rw [hc]; exact Pl.ltI _)]
          have HC := Lib.hid hc
          clear hc
          simp only [List.length_cons] at *
          go_wp2_with fail
          go_quiet (fail)
          go_wp2_with fail
          go_quiet (fail)
          cases b
          · go_wp2_with fail
            go_quiet (fail)
            go_wp2
            go_roundw
            case rel => exact ⟨xs, ys, acc, _, _, _, _, _, _, rfl, rfl, rfl, by omega, ⟨HR.out.1.tail, HR.out.2.tail⟩, by rw [drewN_add, drewN_add]; exact MQ _, by show _ = _; have := HE.out; rw [Pl.mg, if_neg (by rw [HC.out]; exact Pl.ltI _), if_neg (by rw [HC.out]; exact Pl.ltI _)] at this; simpa using this⟩
            case measure => simp [lenV]; omega
          · obtain ⟨X, hX⟩ : ∃ X, X = x := ⟨_, rfl⟩
            subst hX
            go_wp2_with (at_builtin; refine wpList_append_one _ rfl _ _ 22 rfl w.heap.size 9 (.string ⟨#[]⟩) 16 Try.underlying22 infoS rfl _ acc.length (acc.map strV) rfl (by exact (MQ _).out.1.owns) (.string (str X)) rfl rfl (by simp only [maxLen]; omega) (by omega) (by exact (MQ _).out.2.size) ?_; intro v5 w5 hown5 hg5 hbl; have hb5 := hbl w w.heap.size (by exact (MQ _).out.2) (Nat.le_refl _); clear hbl hg5; obtain ⟨a5, c5, rfl, HM5⟩ := grownT hown5 hb5; clear hown5 hb5)
            go_wp2_with fail
            have M5 : ∀ n, Hid (Made w (w5.drewN n) (.slice a5 (acc.length + 1) c5) (acc ++ [X]) ∧ Below w.heap.size w (w5.drewN n)) := fun N => ⟨HM5.out.1.drewN N, below_drewN HM5.out.2 N⟩
            go_quiet (fail)
            go_wp2
            go_roundw
            case rel => exact ⟨xs, ys, acc ++ [X], _, _, _, _, a5, c5, rfl, rfl, by simp, by simp; omega, ⟨HR.out.1.tail, HR.out.2.tail⟩, by simpa using M5 _, by show _ = _; have := HE.out; rw [Pl.mg, if_neg (by rw [HC.out]; exact Pl.ltI _), if_neg (by rw [HC.out]; exact Pl.ltI _)] at this; simpa using this⟩
            case measure => simp [lenV]; omega
        · have e1 : Op.bytesLess (str x).toList (str y).toList = false := by rw [less_str, decide_eq_false (Pl.ltA hc)]
          have e2 : Op.bytesLess (str y).toList (str x).toList = true := by rw [less_str, decide_eq_true hc]
          have HC := Lib.hid hc
          clear hc
          simp only [List.length_cons] at *
          go_wp2_with fail
          go_quiet (fail)
          go_wp2_with fail
          go_quiet (fail)
          cases s
          · go_wp2
            go_roundw
            case rel => exact ⟨x :: xs, ys, acc, _, _, _, _, _, _, rfl, rfl, rfl, by simp; omega, ⟨HR.out.1, HR.out.2.tail⟩, MQ _, by show _ = _; have := HE.out; rw [Pl.mg, if_neg (Pl.ltA HC.out), if_pos HC.out] at this; simpa using this⟩
            case measure => simp [lenV]
          · obtain ⟨X, hX⟩ : ∃ X, X = y := ⟨_, rfl⟩
            subst hX
            go_wp2_with (at_builtin; refine wpList_append_one _ rfl _ _ 22 rfl w.heap.size 9 (.string ⟨#[]⟩) 16 Try.underlying22 infoS rfl _ acc.length (acc.map strV) rfl (by exact (MQ _).out.1.owns) (.string (str X)) rfl rfl (by simp only [maxLen]; omega) (by omega) (by exact (MQ _).out.2.size) ?_; intro v5 w5 hown5 hg5 hbl; have hb5 := hbl w w.heap.size (by exact (MQ _).out.2) (Nat.le_refl _); clear hbl hg5; obtain ⟨a5, c5, rfl, HM5⟩ := grownT hown5 hb5; clear hown5 hb5)
            go_wp2
            go_roundw
            case rel => exact ⟨x :: xs, ys, acc ++ [X], _, _, _, _, a5, c5, rfl, rfl, by simp, by simp; omega, ⟨HR.out.1, HR.out.2.tail⟩, by simpa using HM5, by show _ = _; have := HE.out; rw [Pl.mg, if_neg (Pl.ltA HC.out), if_pos HC.out] at this; simpa using this⟩
            case measure => simp [lenV]
end Go.Proofs.Ytjceoigekifgdaa
