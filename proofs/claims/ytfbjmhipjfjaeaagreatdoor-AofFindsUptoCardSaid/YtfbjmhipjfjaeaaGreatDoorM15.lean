/- The scan of the reference at every text tells what the plain scan tells, in a row of its own. The scan of the program at every text tells what the plain scan tells, in a row of its own. -/
import Derived.Test.YtfbjmhipjfjaeaaGreatDoorM14
import Derived.Test.YtfbjmhipjfjaeaaGreatDoorM07
import Derived.BigQuiet
import Derived.Deep.LoopGhost
namespace Go.Proofs.YtfbjmhipjfjaeaaGreatDoor
open Go.ChangeShapes Go.WideShapes Go.ChangeAt Go.RowKit
set_option linter.unusedVariables false

/-- The cells of groups, one behind the other. -/
def cellsG (gs : List Pl.Grp) : List Value := gs.flatMap fun g => [.int .u64 g.1, .string (str g.2)]
theorem cellsG_length (gs : List Pl.Grp) : (cellsG gs).length = gs.length * 2 := by
  induction gs with
  | nil => rfl
  | cons g l ih => simp only [cellsG, List.flatMap_cons, List.length_append, List.length_cons, List.length_nil] at ih ⊢; omega
theorem cellsG_snoc (gs : List Pl.Grp) (n : Nat) (b : List UInt8) : cellsG (gs ++ [(n, b)]) = cellsG gs ++ [.int .u64 n, .string (str b)] := by simp [cellsG]
theorem snoc_of {gs : List Pl.Grp} (h : gs ≠ []) : ∃ l g, gs = l ++ [g] := ⟨gs.dropLast, gs.getLast h, (List.dropLast_concat_getLast h).symm⟩
/-- A row of groups. -/
def GRow (w : World) (base : Nat) (v : Value) (gs : List Pl.Grp) : Prop := w.ownsRow base 44 2 v gs.length (cellsG gs)
theorem GRow.shape {w : World} {base : Nat} {v : Value} {gs : List Pl.Grp} (h : GRow w base v gs) : ∃ ao cp, v = .slice ao gs.length cp := by
  rcases h.2 with ⟨h1, h2⟩ | ⟨g, cap, cur, h1, _⟩
  · exact ⟨none, 0, by rw [h1, h2]⟩
  · exact ⟨_, _, h1⟩
theorem GRow.last {w : World} {base : Nat} {v : Value} {gs : List Pl.Grp} (h : GRow w base v gs) (h0 : gs ≠ []) :
    ∃ g cp, v = .slice (some ⟨g, 0, none⟩) gs.length cp ∧ base ≤ g ∧ g < w.heap.size ∧ ∀ W : World, W.heap[g]? = w.heap[g]? → W.cell? ⟨g, (gs.length - 1) * 2, none⟩ = some (.int .u64 (Pl.lastN gs)) := by
  obtain ⟨l, x, rfl⟩ := snoc_of h0
  rcases h.2 with ⟨h1, h2⟩ | ⟨g, cap, cur, h1, h3, h4, _⟩
  · simp at h2
  · subst h1
    refine ⟨g, cap, rfl, h3, (Array.getElem?_eq_some_iff.1 h4).1, fun W hW => ?_⟩
    rw [World.cell?_of_block (w := w) (by exact hW), World.ownsRow.cellAt h _ (by simp), cellsG_snoc, Pl.lastN_snoc, List.getElem?_append_right (by rw [cellsG_length]; simp), cellsG_length]
    simp
theorem GRow.kept {w w' : World} {base B : Nat} {v : Value} {gs : List Pl.Grp} (h : GRow w base v gs) (hb : Below B w w') (hB : w.heap.size ≤ B) : GRow w' base v gs :=
  World.ownsRow.kept (row := none) h ⟨hb.os, hb.tape, hb.output, hb.size, fun k hk _ => hb.block k (by omega)⟩ (by cases hv : v.ownBlock <;> simp)

section
variable {P : Program} {ops : Array Oper} {rest : List Oper} {o : Oper} {a : Act} {Q : Exit → Act → World → Prop}
/-- 'out = append(out, x)', one element of two cells. -/
theorem wpList_append_two (w : World) (hgd : o.guard = none) (s x : Operand) (t : TypeId) (ho : o.op = .call { callee := .builtin .append, args := #[s, x], argTypes := #[t, t] })
    (base : Nat) (e : TypeId) (z : Value) (bytes : Nat) (ht : P.underlying t = some (.slice e)) (hinfo : (P.info? e).map (fun i => (i.zero, i.size, i.bytes)) = some (some z, 2, bytes)) (hzs : z.cells.size = 2)
    (v : Value) (n : Nat) (xs : List Value) (hs : a.eval s = v) (hown : w.ownsRow base e 2 v n xs)
    (u u2 : Value) (h1 : u.oneCell' = true) (h2 : u2.oneCell' = true) (hx : a.eval x = .slice (some ⟨w.heap.size, 0, none⟩) 1 1)
    (h63 : n + 1 ≤ maxLen) (hbytes : (n + 1) * bytes ≤ 140737488355328) (hbase : base ≤ w.heap.size)
    (h : ∀ v' w', w'.ownsRow base e 2 v' (n + 1) (xs ++ [u, u2]) → w.grownBy w' v.ownBlock → (∀ (W : World) (B : Nat), Below B W w → B ≤ base → Below B W w') → wpList P ops Q rest (a.put o.dst v') w') :
    wpList P ops Q (o :: rest) a (w.alloc (.cells #[u, u2] e)) := by
  obtain ⟨i, hi, hz, hsz, hby⟩ := info_parts hinfo
  refine wpList_append_own _ hgd s x t ho base e i z 2 bytes ht hi hz hsz hby hzs (by omega) v n xs hs (hown.alloc _) ⟨w.heap.size, 0, none⟩ 1 1 [u, u2] hx rfl ?_ (by simp [h1, h2]) h63 hbytes (by simp; omega) ?_
  · intro j y hj
    have hadd : (⟨w.heap.size, 0, none⟩ : Addr).add j = ⟨w.heap.size, j, none⟩ := by unfold Addr.add; split <;> simp_all
    rw [hadd]
    rcases j with _ | _ | j
    · simp at hj; subst hj; exact World.cell?_alloc_mark _ _ _ _ _
    · simp at hj; subst hj; exact World.cell?_alloc_mark _ _ _ _ _
    · simp at hj
  intro v' w' hown' hg _
  have hg2 : w.grownBy w' v.ownBlock := World.grownBy.trans (World.grownBy_alloc w _ _) hg
  refine h v' w' hown' hg2 fun W B hb hB => hb.grown hg2 ?_ fun k hk => ?_
  · omega
  · have := (hown.lt k hk).1; omega
end

theorem infoG : (Tryz.prog.info? 44).map (fun i => (i.zero, i.size, i.bytes)) = some (some (.agg #[.int .u64 0, .string ⟨#[]⟩]), 2, 24) := by kernel_rfl

/-- What a scan leaves. -/
def ScanEnd (s : ByteArray) (w : World) (e : Ending) (w' : World) : Prop :=
  ∃ v, e = .returned (.tuple #[v, .int .i64 (Pl.scan s.data.toList).pos, .int .i64 (Pl.scan s.data.toList).why]) ∧ GRow w' w.heap.size v (Pl.scan s.data.toList).gs ∧ Below w.heap.size w w'

theorem ScanEnd.mk {s : ByteArray} {w w' : World} {gs : List Pl.Grp} {k why : Nat} {v : Value} (he : Pl.scan s.data.toList = ⟨gs, k, why⟩) (hr : GRow w' w.heap.size v gs) (hb : Below w.heap.size w w') :
    ScanEnd s w (.returned (.tuple #[v, .int .i64 k, .int .i64 why])) w' := ⟨v, by rw [he], by rw [he]; exact hr, hb⟩

theorem dec_from (s : ByteArray) (hs : s.size ≤ maxLen) (k : Nat) (n u r : Nat) (b : List UInt8) (hd : Pl.dec (s.data.toList.drop k) = ⟨n, b, u, r⟩) (w : World) :
    Calls Tryz.prog 86 #[.string (s.extract k s.size)] w fun e w' => e = .returned (.tuple #[.agg #[.int .u64 n, .string (str b)], .int .i64 u, .int .i64 r]) ∧ Below w.heap.size w w' := by
  have h := dec_any (s.extract k s.size) w (by rw [ByteArray.size_extract]; omega)
  have e : (s.extract k s.size).data.toList = s.data.toList.drop k := by rw [Lib.extract_data, List.take_of_length_le]; simp
  rw [e, hd] at h
  exact h
end Go.Proofs.YtfbjmhipjfjaeaaGreatDoor

namespace Go.Proofs.YtfbjmhipjfjaeaaGreatDoor
open Go.ChangeShapes Go.WideShapes Go.ChangeAt Go.RowKit
set_option linter.unusedVariables false

set_option maxHeartbeats 4000000 in
theorem scan_any (s : ByteArray) (hs : s.size ≤ 140737488351232) (w : World) :
    Calls Tryz.prog 70 #[.string s] w fun e w' => ScanEnd s w e w' := by
  have hs2 : s.size ≤ maxLen := by unfold maxLen; omega
  go_enter Tryz.func70, Tryz.ntmps70
  go_wp2_with fail
  go_step3
  go_wp2_with fail
  go_step3
  go_wp2_with fail
  go_loopg [5, 6, 7] s.size (fun gh o p y wr => ∃ (gs : List Pl.Grp) (k : Nat) (ao : Option Addr) (cp : Nat), gh = s.size - k ∧ y = .int .i64 0 ∧ o = .slice ao gs.length cp ∧ p = .int .i64 k ∧ k ≤ s.size ∧ Hid (Pl.Scanning s.data.toList gs k) ∧ Hid (GRow wr w.heap.size (.slice ao gs.length cp) gs) ∧ Hid (Below w.heap.size w wr))
  case atStart => exact ⟨[], 0, none, 0, by omega, rfl, rfl, rfl, Nat.zero_le _, Pl.Scanning.start _, World.ownsRow_nil _ _ _ _, Below.refl _ _⟩
  case round =>
    obtain ⟨gs, k, ao, cp, hgk, rfl, rfl, rfl, hk, hsc, hrow, hbel⟩ := hrel
    have hlen := len_toList s
    by_cases hlt : k < s.size
    · go_wp2_with fail
      obtain ⟨⟨n, b, u, r⟩, hd⟩ : ∃ g, Pl.dec (s.data.toList.drop k) = g := ⟨_, rfl⟩
      have Hd := Lib.hid hd
      clear hd
      with_reducible refine (dec_from s hs2 k n u r b Hd.out _).mono ?_
      rintro e w1 ⟨rfl, b1⟩
      have hbel1 : Below w.heap.size w w1 := hbel.out.trans (b1.mono hbel.out.size)
      have hrow1 := hrow.out.kept b1 (Nat.le_refl _)
      by_cases hr0 : r = 0
      · have hr1 : ((r : Int) != 0) = false := by rw [hr0]; rfl
        obtain ⟨wb, hwb, hw, hl, k0, k1, _, _⟩ := box2 w1 (.int .u64 n) (.string (str b)) 44
        have Hwb := Lib.hid hwb
        clear hwb
        obtain ⟨o1, o2, o3, o4⟩ := Pl.dec_ok (s := s.data.toList.drop k) (by rw [Hd.out]; exact hr0)
        rw [Hd.out] at o1 o2 o3 o4
        rw [List.length_drop, hlen] at o4
        simp only at o1 o2 o3 o4
        have o5 : k + u ≤ s.size := by omega
        have o6 : 25 ≤ u := by omega
        clear o3 o4
        have hmany := hsc.out.many
        by_cases h0 : gs = []
        · have hnext := hsc.out.next (by omega) (by rw [Hd.out]; exact hr0) (.inl h0)
          rw [Hd.out] at hnext
          subst h0
          go_wp2_with fail
          rw [Hwb.out]
          go_quiet (fail)
          have bq : Below wb.heap.size wb (wb.drewN nq) := below_drewN (Below.refl _ _) nq
          have p0 := k0 _ bq
          have p1 := k1 _ bq
          have hrowq := (hrow1.kept hw (Nat.le_refl _)).kept bq (Nat.le_refl _)
          have hbelq : Below w.heap.size w (wb.drewN nq) := (hbel1.trans (hw.mono hbel1.size)).trans (bq.mono (Nat.le_trans hbel1.size hw.size))
          generalize wb.drewN nq = wq at p0 p1 hrowq hbelq ⊢
          clear k0 k1 hrow1 hw hl bq hbel1
          have hlb := Lib.hid hbelq
          have hrowq : Hid (wq.ownsRow w.heap.size 44 2 (.slice ao 0 cp) 0 (cellsG [])) := hrowq
          go_wp2_with (first | (at_builtin; go_loud (refine wpList_append_two _ rfl (.tmp 49) (.tmp 51) 118 rfl w.heap.size 44 (.agg #[.int .u64 0, .string ⟨#[]⟩]) 24 Tryz.underlying118 infoG rfl (.slice ao _ cp) _ _ rfl hrowq.out _ _ rfl rfl rfl (by unfold maxLen; first | omega | (simp; omega)) (by first | omega | (simp; omega)) hbelq.size ?_); intro v' w2 hown2 hg2 hB2))
          have hn2 : Pl.Scanning s.data.toList ([] ++ [(n, b)]) (k + u) := hnext
          have hrow2 : GRow w2 w.heap.size v' ([] ++ [(n, b)]) := by unfold GRow; rw [List.length_append, cellsG_snoc]; exact hown2
          obtain ⟨ao2, cp2, rfl⟩ := hrow2.shape
          have hbel2 := hB2 w _ hlb.out (Nat.le_refl _)
          clear hown2 hg2 hB2 hrowq p0 p1 hbelq
          go_wp2
          go_roundg (s.size - (k + u))
          case rel => exact ⟨[] ++ [(n, b)], k + u, ao2, cp2, rfl, rfl, rfl, by go_num, by omega, hn2, hrow2, hbel2⟩
          case measure => omega
        · have hpos : 0 < gs.length := List.length_pos_iff.2 h0
          obtain ⟨g, cp', e, hbg, hlg, hcell⟩ := hrow1.last h0
          simp only [Value.slice.injEq, true_and] at e
          obtain ⟨rfl, rfl⟩ := e
          have hcell := fun nq => hcell (wb.drewN nq) ((hw.block g hlg))
          have p0 := fun nq => k0 (wb.drewN nq) (below_drewN (Below.refl _ _) nq)
          have p1 := fun nq => k1 (wb.drewN nq) (below_drewN (Below.refl _ _) nq)
          by_cases h1 : n = Pl.lastN gs + 1
          · have hnext := hsc.out.next (by omega) (by rw [Hd.out]; exact hr0) (.inr (by rw [Hd.out]; exact h1))
            rw [Hd.out] at hnext
            have hL : Pl.lastN gs < 18446744073709551615 := by omega
            have h2 : ((n : Int) - 1 != (Pl.lastN gs : Int)) = false := by rw [h1]; simp
            have hn0 : ((n : Int) == 0) = false := by rw [beq_eq_false_iff_ne]; omega
            have hn1 : 1 ≤ n := by omega
            have H1 := Lib.hid h1
            clear h1
            go_wp2_with fail
            rw [Hwb.out]
            go_quiet (fail)
            have bq : Below wb.heap.size wb (wb.drewN nq) := below_drewN (Below.refl _ _) nq
            have p0 := k0 _ bq
            have p1 := k1 _ bq
            have hrowq := (hrow1.kept hw (Nat.le_refl _)).kept bq (Nat.le_refl _)
            have hbelq : Below w.heap.size w (wb.drewN nq) := (hbel1.trans (hw.mono hbel1.size)).trans (bq.mono (Nat.le_trans hbel1.size hw.size))
            generalize wb.drewN nq = wq at p0 p1 hrowq hbelq ⊢
            clear k0 k1 hrow1 hw hl bq hbel1
            have hlb := Lib.hid hbelq
            have hrowq : Hid (wq.ownsRow w.heap.size 44 2 (.slice (some ⟨g, 0, none⟩) gs.length cp) gs.length (cellsG gs)) := hrowq
            go_wp2_with (first | (at_builtin; go_loud (refine wpList_append_two _ rfl (.tmp 49) (.tmp 51) 118 rfl w.heap.size 44 (.agg #[.int .u64 0, .string ⟨#[]⟩]) 24 Tryz.underlying118 infoG rfl (.slice (some ⟨g, 0, none⟩) _ cp) _ _ rfl hrowq.out _ _ rfl rfl rfl (by unfold maxLen; first | omega | (simp; omega)) (by first | omega | (simp; omega)) hbelq.size ?_); intro v' w2 hown2 hg2 hB2))
            have hn2 : Pl.Scanning s.data.toList (gs ++ [(n, b)]) (k + u) := hnext
            have hrow2 : GRow w2 w.heap.size v' (gs ++ [(n, b)]) := by unfold GRow; rw [List.length_append, cellsG_snoc]; exact hown2
            obtain ⟨ao2, cp2, rfl⟩ := hrow2.shape
            have hbel2 := hB2 w _ hlb.out (Nat.le_refl _)
            clear hown2 hg2 hB2 hrowq p0 p1 hbelq
            go_wp2
            go_roundg (s.size - (k + u))
            case rel => exact ⟨gs ++ [(n, b)], k + u, ao2, cp2, rfl, rfl, rfl, by go_num, by omega, hn2, hrow2, hbel2⟩
            case measure => omega
          · have he := hsc.out.order (by omega) (by rw [Hd.out]; exact hr0) h0 (by rw [Hd.out]; exact h1)
            have hL : Pl.lastN gs < 18446744073709551616 := Pl.lastN_lt h0 hsc.out.nums
            have h2 : ((n : Int) - 1 != (Pl.lastN gs : Int)) = true := by rw [bne_iff_ne]; omega
            have hn0 : ((n : Int) == 0) = false := by rw [beq_eq_false_iff_ne]; omega
            have hn1 : 1 ≤ n := by omega
            clear h1
            go_wp2_with fail
            rw [Hwb.out]
            go_quiet (fail)
            go_wp2
            (try rw [Exit.noGoto_ret])
            go_ret3
            have bq : Below wb.heap.size wb (wb.drewN nq) := below_drewN (Below.refl _ _) nq
            exact ScanEnd.mk he ((hrow1.kept hw (Nat.le_refl _)).kept bq (Nat.le_refl _)) ((hbel1.trans (hw.mono hbel1.size)).trans (bq.mono (Nat.le_trans hbel1.size hw.size)))
      · have hr1 : ((r : Int) != 0) = true := by rw [bne_iff_ne]; omega
        go_wp2
        (try rw [Exit.noGoto_ret])
        go_ret3
        have he := hsc.out.bad (by omega) (by rw [Hd.out]; exact hr0)
        rw [Hd.out] at he
        exact ScanEnd.mk he (World.ownsRow.alloc hrow1 _) (hbel1.alloc hbel1.size _)
    · have he := hsc.out.done (by omega)
      have hk2 : ¬ ((k : Int) < (s.size : Int)) := by omega
      go_wp2
      (try rw [Exit.noGoto_ret])
      go_ret3
      exact ScanEnd.mk he hrow.out hbel.out

end Go.Proofs.YtfbjmhipjfjaeaaGreatDoor
