/- covenantlaw26: Fit; whole; Plan and Crash of a log's disk. covenantlaw26: whole. covenantlaw26: what is done in a life, among the arguments; bodies; later. Lives of a log, plainly: what holds behind each call of a life. covenantlaw26: a log, its disk and a row of texts beside them. -/
import Derived.Test.YtfbjmhipjfjaeaaGreatDoorM32
import Derived.Lib.AppendStr
import Derived.Maps.AppendAt
import Derived.Test.YtfbjmhipjfjaeaaGreatDoorM31
namespace Go.Proofs.YtfbjmhipjfjaeaaGreatDoor
open Go.ChangeShapes Go.WideShapes Go.ChangeAt Go.RowKit Go.Maps Pl
set_option linter.unusedVariables false
set_option linter.unusedSimpArgs false
/-- May this policy be? -/
def Pl.polOk (p e : Int) : Bool := if p = 2 then decide (1 ≤ e) else if p = 1 ∨ p = 3 then decide (e = 0) else false
set_option maxRecDepth 100000 in
theorem fit_any (p e : Int) (w : World) : Calls Tryz.prog 25 #[.int .i64 p, .int .i64 e] w fun x w' => x = .returned (.bool (polOk p e)) ∧ w' = w := by
  unfold polOk
  by_cases h2 : p = 2
  · subst h2
    go_enter Tryz.func25, Tryz.ntmps25
    go_wp2
    go_ret
    exact ⟨by simp, rfl⟩
  · have h2' : (p == 2) = false := by simpa using h2
    by_cases h1 : p = 1
    · subst h1
      go_enter Tryz.func25, Tryz.ntmps25
      go_wp2
      go_ret
      exact ⟨by simp; rfl, rfl⟩
    · have h1' : (p == 1) = false := by simpa using h1
      by_cases h3 : p = 3
      · subst h3
        go_enter Tryz.func25, Tryz.ntmps25
        go_wp2
        go_ret
        exact ⟨by simp; rfl, rfl⟩
      · have h3' : (p == 3) = false := by simpa using h3
        rw [if_neg h2, if_neg (by rintro (h | h); exact h1 h; exact h3 h)]
        clear h1 h2 h3
        go_enter Tryz.func25, Tryz.ntmps25
        go_wp2
        go_ret
        exact ⟨rfl, rfl⟩
theorem u8Inf : (Tryz.prog.info? 5).map (fun i => (i.zero, i.size, i.bytes)) = some (some (.int .u8 0), 1, 1) := by kernel_rfl
/-- Bytes of the call's own. -/
def BOwn (w : World) (B : Nat) (v : Value) (l : List UInt8) : Prop := w.ownsRow B 5 1 v l.length (Lib.byteCells l)
section
variable {ops : Array Oper} {rest : List Oper} {o : Oper} {a : Act} {Q : Exit → Act → World → Prop}
/-- 'out = append(out, text...)'. -/
theorem wpList_append_bstr {B : Nat} (w : World) (hgd : o.guard = none) (s x : Operand) (ho : o.op = .call { callee := .builtin .append, args := #[s, x], argTypes := #[113, 9] })
    (v : Value) (l : List UInt8) (hs : a.eval s = v) (hown : BOwn w B v l) (S : ByteArray) (hx : a.eval x = .string S) (hlen : l.length + S.size ≤ 140737488355328) (hB : B ≤ w.heap.size)
    (h : ∀ v' w', BOwn w' B v' (l ++ S.data.toList) → (∀ (W : World), Below B W w → Below B W w') → wpList Tryz.prog ops Q rest (a.put o.dst v') w') : wpList Tryz.prog ops Q (o :: rest) a w := by
  refine wpList_plain hgd fun K hK => ?_
  obtain ⟨i, hi, hz, hsz, hby⟩ := info_parts u8Inf
  obtain ⟨v', w', hr, h2, h3, h4⟩ := Lib.run_append_own_string (P := Tryz.prog) w B 113 9 o.type 5 i Tryz.underlying113 Tryz.underlying9 hi hz hsz hby v _ _ hown S (by unfold maxLen; omega) (by omega) hB
  have hSl : S.data.toList.length = S.size := by simp
  unfold Oper.wp execOp
  simp only [ho, resolve, invoke, builtin, Sem.run_bind, Sem.run_pure, Result.andThen_ok, List.map_toArray, List.map_cons, List.map_nil, hs, hx, hr]
  refine hK _ _ (h v' w' ?_ fun W hW => hW.grown h3 hB fun k hk => (hown.lt k hk).1)
  unfold BOwn
  rw [List.length_append, hSl, show Lib.byteCells (l ++ S.data.toList) = Lib.byteCells l ++ Lib.strCells S by simp [Lib.byteCells, Lib.strCells]]
  exact h2
end
end Go.Proofs.YtfbjmhipjfjaeaaGreatDoor

namespace Go.Proofs.YtfbjmhipjfjaeaaGreatDoor
open Go.ChangeShapes Go.WideShapes Go.ChangeAt Go.RowKit Go.Maps Pl
set_option linter.unusedVariables false
set_option linter.unusedSimpArgs false
theorem wholeB_take {ts : List Tx} {k : Nat} {t : Tx} (ht : ts[k]? = some t) : wholeB (ts.take (k + 1)) = wholeB (ts.take k) ++ strip t := by
  rw [List.take_add_one, ht]
  exact wholeB_snoc _ _
theorem strip_len (t : Tx) : (strip t).length ≤ t.length := by
  unfold strip
  split
  · simp
  · exact Nat.le_refl _
theorem wholeB_take_le (ts : List Tx) (k : Nat) : (wholeB (ts.take k)).length ≤ (ts.map List.length).sum := by
  induction ts generalizing k with
  | nil => simp [wholeB]
  | cons t r ih =>
    cases k with
    | zero => simp [wholeB]
    | succ k =>
      have h1 := ih k
      have h2 := strip_len t
      simp only [wholeB, List.take_succ_cons, List.flatMap_cons, List.length_append, List.map_cons, List.sum_cons] at h1 ⊢
      omega
set_option maxRecDepth 100000 in
set_option maxHeartbeats 4000000 in
theorem whole_any (v : Value) (ts : List Tx) (hz : (ts.map List.length).sum ≤ 1073741824) (hl : ts.length ≤ 1073741824) (w : World) (h : TAt w v ts) :
    Calls Tryz.prog 32 #[v] w fun e w' => e = .returned (.string (str (wholeB ts))) ∧ Below w.heap.size w w' := by
  obtain ⟨ao, cp, rfl, hr⟩ := h
  have HR := Lib.hid hr
  have hle := fun k => wholeB_take_le ts k
  have HLE := Lib.hid hle
  clear hr hle
  go_enter Tryz.func32, Tryz.ntmps32
  go_wp2_with fail
  go_loopw [3, 4] (fun y i wr => ∃ (k : Nat) (yv : Value), k ≤ ts.length ∧ i = .int .i64 k ∧ yv = y ∧ Hid (BOwn wr w.heap.size yv (wholeB (ts.take k))) ∧ Hid (Below w.heap.size w wr)) (fun _ i _ => ts.length - (intOf i).toNat)
  case atStart => exact ⟨0, _, Nat.zero_le _, rfl, rfl, by show World.ownsRow _ _ _ _ _ _ _; rw [List.take_zero]; exact World.ownsRow_nil _ _ _ _, Below.refl _ _⟩
  case round =>
    obtain ⟨k, yv, hk, rfl, rfl, hr, hw⟩ := hrel
    obtain ⟨wk, hwk⟩ : ∃ wk, wk = wr := ⟨_, rfl⟩
    subst hwk
    have hsz := hw.out.size
    have hlen := HLE.out k
    by_cases hlt : k < ts.length
    · obtain ⟨t, ht⟩ : ∃ t, ts[k]? = some t := ⟨_, List.getElem?_eq_getElem hlt⟩
      rcases HR.out with rfl | ⟨g, o, rfl, hg, hc⟩
      · simp at hlt
      have p1 : wk.cell? ⟨g, o + k, none⟩ = some (.string (str t)) := (World.cell?_of_block (hw.out.block g hg)).trans (hc k t ht)
      have hkI : (k : Int) < (ts.length : Int) := by omega
      have hk0 : (0 : Int) ≤ (k : Int) := by omega
      have HN := Lib.hid (wholeB_take ht)
      have hlen1 := HLE.out (k + 1)
      rw [wholeB_take ht, List.length_append] at hlen1
      have hstr := str_size t
      clear hc ht
      rcases t with _ | ⟨c, r⟩
      · have he : ((str []).toList == []) = true := by simp [str]
        go_wp2_with (at_builtin; refine wpList_append_bstr wk rfl (.tmp 25) (.tmp 26) rfl yv (wholeB (ts.take k)) rfl hr.out (str []) (by simp [Act.eval]) (by rw [str_size]; simp only [List.length_nil]; omega) hsz ?_)
        intro v2 w2 hown2 hB2
        have HO := Lib.hid hown2
        have HB := Lib.hid (hB2 w hw.out)
        clear hown2 hB2
        go_wp2
        go_roundw
        case rel => exact ⟨k + 1, _, by omega, by go_num, rfl, Lib.hid (by rw [HN.out]; exact HO.out), HB⟩
        case measure => simp [intOf]; omega
      · have he : ((str (c :: r)).toList == []) = false := by simp [str]
        have hs0 : 0 < (str (c :: r)).size := by rw [hstr]; simp
        have hg0 : (str (c :: r))[0]'hs0 = c := rfl
        by_cases hc : c = 61
        · subst hc
          have hS : (str (61 :: r)).size = r.length + 1 := by rw [hstr]; rfl
          have hq : ((((str (61 :: r))[0]'hs0).toNat : Int) == 61) = true := rfl
          have hx : (str (61 :: r)).extract 1 (r.length + 1) = str r := by
            apply ba_ext
            rw [Lib.extract_data, str_toList, str_toList]
            simp
          clear hstr hg0
          have hI : ((str (61 :: r)).size : Int) = (r.length : Int) + 1 := by rw [hS]; rfl
          go_wp2_with (at_builtin; refine wpList_append_bstr wk rfl (.tmp 25) (.tmp 26) rfl yv (wholeB (ts.take k)) rfl hr.out (str r) (by simp [Act.eval]) (by rw [str_size]; rw [strip_eq] at hlen1; omega) hsz ?_)
          rw [strip_eq] at HN
          intro v2 w2 hown2 hB2
          have HO := Lib.hid hown2
          have HB := Lib.hid (hB2 w hw.out)
          clear hown2 hB2
          go_wp2
          go_roundw
          case rel => exact ⟨k + 1, _, by omega, by go_num, rfl, Lib.hid (by rw [HN.out]; exact HO.out), HB⟩
          case measure => simp [intOf]; omega
        · have hq : ((((str (c :: r))[0]'hs0).toNat : Int) == 61) = false := by
            rw [hg0]
            simp only [beq_eq_false_iff_ne, ne_eq]
            intro h
            apply hc
            apply UInt8.toNat_inj.1
            have : c.toNat = 61 := by omega
            rw [this]; rfl
          have hst : strip (c :: r) = c :: r := by
            unfold strip
            split
            · next h => cases h; exact absurd rfl hc
            · rfl
          clear hg0
          rw [hst] at hlen1
          go_wp2_with (at_builtin; refine wpList_append_bstr wk rfl (.tmp 25) (.tmp 26) rfl yv (wholeB (ts.take k)) rfl hr.out (str (c :: r)) (by simp [Act.eval]) (by rw [str_size]; omega) hsz ?_)
          rw [hst] at HN
          intro v2 w2 hown2 hB2
          have HO := Lib.hid hown2
          have HB := Lib.hid (hB2 w hw.out)
          clear hown2 hB2
          go_wp2
          go_roundw
          case rel => exact ⟨k + 1, _, by omega, by go_num, rfl, Lib.hid (by rw [HN.out]; exact HO.out), HB⟩
          case measure => simp [intOf]; omega
    · obtain rfl : k = ts.length := by omega
      have hcv := own_string 113 5 Tryz.underlying113 Tryz.underlying5 (l := wholeB (ts.take ts.length)) rfl hr.out Tryz.underlying9
      go_wp2
      go_ret
      exact ⟨rfl, hw.out⟩
end Go.Proofs.YtfbjmhipjfjaeaaGreatDoor

namespace Go.Proofs.YtfbjmhipjfjaeaaGreatDoor
open Go.ChangeShapes Go.WideShapes Go.ChangeAt Go.RowKit Go.Maps Pl
set_option linter.unusedVariables false
set_option linter.unusedSimpArgs false
/-- A thing that is done: its kind, its body. -/
structure Oq where
  kind : Int
  body : Tx
instance : Inhabited Oq := ⟨⟨0, []⟩⟩
/-- The other cells of one. -/
def OqRest (c2 c3 c4 c5 c6 : Value) : Prop := ∃ (p e k : Int) (a1 a2 : Option Addr) (n1 n2 m1 m2 : Nat), c2 = .int .i64 p ∧ c3 = .int .i64 e ∧ c4 = .int .i64 k ∧ c5 = .slice a1 n1 m1 ∧ c6 = .slice a2 n2 m2
/-- A slice whose cells hold these things. -/
def OpRow (w : World) (v : Value) (os : List Oq) : Prop :=
  ∃ ao cp, v = .slice ao os.length cp ∧ (os = [] ∨ ∃ g off, ao = some ⟨g, off, none⟩ ∧ g < w.heap.size ∧ ∀ (j : Nat) d, os[j]? = some d → ∃ c2 c3 c4 c5 c6, OqRest c2 c3 c4 c5 c6 ∧ w.cell? ⟨g, off + j * 7, none⟩ = some (.int .i64 d.kind) ∧ w.cell? ⟨g, off + j * 7 + 1, none⟩ = some (.string (str d.body)) ∧ w.cell? ⟨g, off + j * 7 + 2, none⟩ = some c2 ∧ w.cell? ⟨g, off + j * 7 + 3, none⟩ = some c3 ∧ w.cell? ⟨g, off + j * 7 + 4, none⟩ = some c4 ∧ w.cell? ⟨g, off + j * 7 + 5, none⟩ = some c5 ∧ w.cell? ⟨g, off + j * 7 + 6, none⟩ = some c6)
theorem OpRow.shape {w : World} {v : Value} {os : List Oq} (h : OpRow w v os) : ∃ ao cp, v = .slice ao os.length cp := by obtain ⟨ao, cp, e, _⟩ := h; exact ⟨ao, cp, e⟩
theorem OpRow.wr {w w' : World} {v : Value} {os : List Oq} {K : Nat → Prop} {B : Nat} (h : OpRow w v os) (hl : ∀ ao n cp, v = .slice ao n cp → ∀ g off, ao = some ⟨g, off, none⟩ → os ≠ [] → g < B) (hw : Wr K w w') (hK : ∀ k, K k → B ≤ k) : OpRow w' v os := by
  obtain ⟨ao, cp, rfl, h⟩ := h
  refine ⟨ao, cp, rfl, ?_⟩
  rcases h with h | ⟨g, off, rfl, hg, hc⟩
  · exact .inl h
  · by_cases hn : os = []
    · exact .inl hn
    · have hgB := hl _ _ _ rfl g off rfl hn
      refine .inr ⟨g, off, rfl, Nat.lt_of_lt_of_le hg hw.size, fun j d hd => ?_⟩
      have hcell : ∀ o, w'.cell? ⟨g, o, none⟩ = w.cell? ⟨g, o, none⟩ := fun o => World.cell?_of_block (hw.block g hg fun hk => by have := hK g hk; omega)
      obtain ⟨c2, c3, c4, c5, c6, hr, q0, q1, q2, q3, q4, q5, q6⟩ := hc j d hd
      exact ⟨c2, c3, c4, c5, c6, hr, (hcell _).trans q0, (hcell _).trans q1, (hcell _).trans q2, (hcell _).trans q3, (hcell _).trans q4, (hcell _).trans q5, (hcell _).trans q6⟩
theorem OpRow.below {w w' : World} {v : Value} {os : List Oq} (h : OpRow w v os) (hb : Below w.heap.size w w') : OpRow w' v os := by
  obtain ⟨ao, cp, rfl, h⟩ := h
  refine ⟨ao, cp, rfl, ?_⟩
  rcases h with h | ⟨g, off, rfl, hg, hc⟩
  · exact .inl h
  · refine .inr ⟨g, off, rfl, Nat.lt_of_lt_of_le hg hb.size, fun j d hd => ?_⟩
    have hcell : ∀ o, w'.cell? ⟨g, o, none⟩ = w.cell? ⟨g, o, none⟩ := fun o => World.cell?_of_block (hb.block g hg)
    obtain ⟨c2, c3, c4, c5, c6, hr, q0, q1, q2, q3, q4, q5, q6⟩ := hc j d hd
    exact ⟨c2, c3, c4, c5, c6, hr, (hcell _).trans q0, (hcell _).trans q1, (hcell _).trans q2, (hcell _).trans q3, (hcell _).trans q4, (hcell _).trans q5, (hcell _).trans q6⟩
/-- A row of faults among the arguments. -/
def QRow (w : World) (v : Value) (l : List Flt) : Prop :=
  ∃ ao cp, v = .slice ao l.length cp ∧ (l = [] ∨ ∃ g off, ao = some ⟨g, off, none⟩ ∧ g < w.heap.size ∧ ∀ (j : Nat) p, l[j]? = some p → w.cell? ⟨g, off + j * 3, none⟩ = some (.int .i64 p.1) ∧ w.cell? ⟨g, off + j * 3 + 1, none⟩ = some (.int .i64 p.2.1) ∧ w.cell? ⟨g, off + j * 3 + 2, none⟩ = some (.int .i64 p.2.2))
theorem QRow.shape {w : World} {v : Value} {l : List Flt} (h : QRow w v l) : ∃ ao cp, v = .slice ao l.length cp := by obtain ⟨ao, cp, e, _⟩ := h; exact ⟨ao, cp, e⟩
theorem QRow.below {w w' : World} {v : Value} {l : List Flt} (h : QRow w v l) (hb : Below w.heap.size w w') : QRow w' v l := by
  obtain ⟨ao, cp, rfl, h⟩ := h
  refine ⟨ao, cp, rfl, ?_⟩
  rcases h with h | ⟨g, off, rfl, hg, hc⟩
  · exact .inl h
  · refine .inr ⟨g, off, rfl, Nat.lt_of_lt_of_le hg hb.size, fun j d hd => ?_⟩
    have hcell : ∀ o, w'.cell? ⟨g, o, none⟩ = w.cell? ⟨g, o, none⟩ := fun o => World.cell?_of_block (hb.block g hg)
    obtain ⟨q0, q1, q2⟩ := hc j d hd
    exact ⟨(hcell _).trans q0, (hcell _).trans q1, (hcell _).trans q2⟩
theorem FRow.nil (w : World) (B : Nat) : FRow w B (.slice none 0 0) [] := World.ownsRow_nil _ _ _ _
section
variable {ops : Array Oper} {rest : List Oper} {o : Oper} {a : Act} {Q : Exit → Act → World → Prop}
/-- 'out = append(out, x)', one fault. -/
theorem wpList_append_flt (w : World) (hgd : o.guard = none) (s x : Operand) (ho : o.op = .call { callee := .builtin .append, args := #[s, x], argTypes := #[53, 53] })
    (base : Nat) (v : Value) (l : List Flt) (hs : a.eval s = v) (hown : FRow w base v l) (p : Flt) (hx : a.eval x = .slice (some ⟨w.heap.size, 0, none⟩) 1 1) (hlen : l.length ≤ 4194304) (hbase : base ≤ w.heap.size)
    (h : ∀ v' w', FRow w' base v' (l ++ [p]) → (∀ (W : World) (B : Nat), Below B W w → B ≤ base → Below B W w') → wpList Tryz.prog ops Q rest (a.put o.dst v') w') :
    wpList Tryz.prog ops Q (o :: rest) a (w.alloc (.cells #[.int .i64 p.1, .int .i64 p.2.1, .int .i64 p.2.2] 96)) := by
  obtain ⟨i, hi, hz, hsz, hby⟩ := info_parts infoF
  have hadd : ∀ j, (⟨w.heap.size, 0, none⟩ : Addr).add j = ⟨w.heap.size, j, none⟩ := fun j => by unfold Addr.add; split <;> simp_all
  refine wpList_append_own _ hgd s x _ ho base 96 i _ 3 24 Tryz.underlying53 hi hz hsz hby rfl (by omega) v l.length (l.flatMap flCells) hs (World.ownsRow.alloc hown _) ⟨w.heap.size, 0, none⟩ 1 1 (flCells p) hx rfl
    (fun j y hj => by
      rw [hadd]
      rcases j with _ | _ | _ | j
      · cases hj; exact World.cell?_alloc_mark _ _ _ _ _
      · cases hj; exact World.cell?_alloc_mark _ _ _ _ _
      · cases hj; exact World.cell?_alloc_mark _ _ _ _ _
      · simp [flCells] at hj) (by
      intro u hu
      simp [flCells] at hu
      rcases hu with rfl | rfl | rfl <;> rfl) (by unfold maxLen; omega) (by omega) (by simp; omega) ?_
  intro v' w' hown' hg _
  have hg2 : w.grownBy w' v.ownBlock := World.grownBy.trans (World.grownBy_alloc w _ _) hg
  refine h v' w' ?_ fun W B hb hB => hb.grown hg2 ?_ fun k hk => ?_
  · unfold FRow
    rw [List.length_append, List.flatMap_append]
    simpa using hown'
  · omega
  · have := (World.ownsRow.lt hown k hk).1; omega
end
set_option maxRecDepth 100000 in
theorem bodies_any (v : Value) (os : List Oq) (hl : os.length ≤ 4194304) (w : World) (h : OpRow w v os) :
    Calls Tryz.prog 26 #[v] w fun e w' => ∃ bv, e = .returned bv ∧ Texts w' w.heap.size bv (os.map Oq.body) ∧ Below w.heap.size w w' := by
  obtain ⟨ao, cp, rfl, hr⟩ := h
  have HR := Lib.hid hr
  clear hr
  go_enter Tryz.func26, Tryz.ntmps26
  go_wp2_with fail
  go_loopw [3, 4] (fun y i wr => ∃ (k : Nat) (yv : Value), k ≤ os.length ∧ i = .int .i64 k ∧ yv = y ∧ Hid (Texts wr w.heap.size yv ((os.take k).map Oq.body)) ∧ Hid (Below w.heap.size w wr)) (fun _ i _ => os.length - (intOf i).toNat)
  case atStart => exact ⟨0, _, Nat.zero_le _, rfl, rfl, by show World.ownsRow _ _ _ _ _ _ _; rw [List.take_zero]; exact World.ownsRow_nil _ _ _ _, Below.refl _ _⟩
  case round =>
    obtain ⟨k, yv, hk, rfl, rfl, hr, hw⟩ := hrel
    obtain ⟨wk, hwk⟩ : ∃ wk, wk = wr := ⟨_, rfl⟩
    subst hwk
    have hsz := hw.out.size
    by_cases hlt : k < os.length
    · obtain ⟨x, hx⟩ : ∃ x, os[k]? = some x := ⟨_, List.getElem?_eq_getElem hlt⟩
      rcases HR.out with rfl | ⟨g, off, rfl, hg, hc⟩
      · simp at hlt
      obtain ⟨c2, c3, c4, c5, c6, -, -, q1, -⟩ := hc k x hx
      have p1 : wk.cell? ⟨g, off + k * 7 + 1, none⟩ = some (.string (str x.body)) := (World.cell?_of_block (hw.out.block g hg)).trans q1
      have hkI : (k : Int) < (os.length : Int) := by omega
      have hk0 : (0 : Int) ≤ (k : Int) := by omega
      have hkl : ((os.take k).map Oq.body).length = k := by rw [List.length_map, List.length_take]; omega
      have HT : Hid (World.ownsRow wk w.heap.size 9 1 yv k (((os.take k).map Oq.body).map fun t => .string (str t))) := by have := hr.out; unfold Texts at this; rw [hkl] at this; exact this
      have HX := Lib.hid hx
      obtain ⟨cs, hcs⟩ : ∃ cs, (((os.take k).map Oq.body).map fun t => Value.string (str t)) = cs := ⟨_, rfl⟩
      rw [hcs] at HT
      have HCS := Lib.hid hcs
      clear hc hx q1 hcs
      go_wp2_with (at_builtin; refine wpList_append_text wk rfl (.tmp 11) (.tmp 17) rfl w.heap.size yv k _ rfl HT.out (.string (str x.body)) rfl (by simp [Act.eval]) (by unfold maxLen; omega) (by omega) hsz ?_)
      intro v2 w2 hown2 hB2
      have HO := Lib.hid (show Texts w2 w.heap.size v2 ((os.take (k + 1)).map Oq.body) by
        unfold Texts
        rw [← HCS.out] at hown2
        rw [List.take_add_one, HX.out]
        simp only [Option.toList_some, List.map_append, List.map_cons, List.map_nil, List.length_append, List.length_map, List.length_cons, List.length_nil, List.length_take]
        rw [show min k os.length = k by omega]
        exact hown2)
      have HB := Lib.hid (hB2 w w.heap.size hw.out (Nat.le_refl _))
      clear hown2 hB2
      go_wp2
      go_roundw
      case rel => exact ⟨k + 1, _, by omega, by go_num, rfl, HO, HB⟩
      case measure => simp [intOf]; omega
    · obtain rfl : k = os.length := by omega
      rw [List.take_length] at hr
      go_wp2
      go_ret
      exact ⟨_, rfl, hr.out, hw.out⟩
set_option maxRecDepth 100000 in
set_option maxHeartbeats 4000000 in
theorem later_any (v : Value) (l : List Flt) (st : Int) (hl : l.length ≤ 4194304) (w : World) (h : QRow w v l) :
    Calls Tryz.prog 28 #[v, .int .i64 st] w fun e w' => ∃ bv l', e = .returned bv ∧ l'.length = l.length ∧ FRow w' w.heap.size bv l' ∧ Below w.heap.size w w' := by
  obtain ⟨ao, cp, rfl, hr⟩ := h
  have HR := Lib.hid hr
  clear hr
  go_enter Tryz.func28, Tryz.ntmps28
  go_wp2_with fail
  go_loopw [5, 6] (fun y i wr => ∃ (k : Nat) (yv : Value) (l' : List Flt), k ≤ l.length ∧ i = .int .i64 k ∧ yv = y ∧ l'.length = k ∧ Hid (FRow wr w.heap.size yv l') ∧ Hid (Below w.heap.size w wr)) (fun _ i _ => l.length - (intOf i).toNat)
  case atStart => exact ⟨0, _, [], Nat.zero_le _, rfl, rfl, rfl, FRow.nil _ _, Below.refl _ _⟩
  case round =>
    obtain ⟨k, yv, l', hk, rfl, rfl, hll, hr, hw⟩ := hrel
    obtain ⟨wk, hwk⟩ : ∃ wk, wk = wr := ⟨_, rfl⟩
    subst hwk
    have hsz := hw.out.size
    by_cases hlt : k < l.length
    · obtain ⟨⟨x0, x1, x2⟩, hx⟩ : ∃ x, l[k]? = some x := ⟨_, List.getElem?_eq_getElem hlt⟩
      rcases HR.out with rfl | ⟨g, off, rfl, hg, hc⟩
      · simp at hlt
      obtain ⟨q0, q1, q2⟩ := hc k _ hx
      have hcell : ∀ o, wk.cell? ⟨g, o, none⟩ = w.cell? ⟨g, o, none⟩ := fun o => World.cell?_of_block (hw.out.block g hg)
      have p0 : wk.cell? ⟨g, off + k * 3, none⟩ = some (.int .i64 x0) := (hcell _).trans q0
      have p1 : wk.cell? ⟨g, off + k * 3 + 1, none⟩ = some (.int .i64 x1) := (hcell _).trans q1
      have p2 : wk.cell? ⟨g, off + k * 3 + 2, none⟩ = some (.int .i64 x2) := (hcell _).trans q2
      have hkI : (k : Int) < (l.length : Int) := by omega
      have hk0 : (0 : Int) ≤ (k : Int) := by omega
      clear hc hx q0 q1 q2 hcell
      by_cases h0 : 0 < x0
      · have h0' : decide (0 < x0) = true := decide_eq_true h0
        by_cases h1 : x0 < 1099511627776
        · have h1' : decide (x0 < 1099511627776) = true := decide_eq_true h1
          clear h0 h1
          go_wp2_with (at_builtin; refine wpList_append_flt (wk.alloc (.cells #[.int .i64 (wrap64 (x0 + st)), .int .i64 x1, .int .i64 x2] 96)) rfl (.tmp 31) (.tmp 33) rfl w.heap.size yv l' rfl (World.ownsRow.alloc hr.out _) (wrap64 (x0 + st), x1, x2) (by simp [Act.eval]) (by omega) (by simp; omega) ?_)
          intro v2 w2 hown2 hB2
          have HO := Lib.hid hown2
          have HB := Lib.hid (hB2 w w.heap.size (hw.out.alloc hsz _) (Nat.le_refl _))
          clear hown2 hB2
          go_wp2
          go_roundw
          case rel => exact ⟨k + 1, _, _, by omega, by go_num, rfl, by rw [List.length_append, hll]; rfl, HO, HB⟩
          case measure => simp [intOf]; omega
        · have h1' : decide (x0 < 1099511627776) = false := decide_eq_false h1
          clear h0 h1
          go_wp2_with (at_builtin; refine wpList_append_flt (wk.alloc (.cells #[.int .i64 (x0), .int .i64 x1, .int .i64 x2] 96)) rfl (.tmp 31) (.tmp 33) rfl w.heap.size yv l' rfl (World.ownsRow.alloc hr.out _) (x0, x1, x2) (by simp [Act.eval]) (by omega) (by simp; omega) ?_)
          intro v2 w2 hown2 hB2
          have HO := Lib.hid hown2
          have HB := Lib.hid (hB2 w w.heap.size (hw.out.alloc hsz _) (Nat.le_refl _))
          clear hown2 hB2
          go_wp2
          go_roundw
          case rel => exact ⟨k + 1, _, _, by omega, by go_num, rfl, by rw [List.length_append, hll]; rfl, HO, HB⟩
          case measure => simp [intOf]; omega
      · have h0' : decide (0 < x0) = false := decide_eq_false h0
        clear h0
        go_wp2_with (at_builtin; refine wpList_append_flt (wk.alloc (.cells #[.int .i64 (x0), .int .i64 x1, .int .i64 x2] 96)) rfl (.tmp 31) (.tmp 33) rfl w.heap.size yv l' rfl (World.ownsRow.alloc hr.out _) (x0, x1, x2) (by simp [Act.eval]) (by omega) (by simp; omega) ?_)
        intro v2 w2 hown2 hB2
        have HO := Lib.hid hown2
        have HB := Lib.hid (hB2 w w.heap.size (hw.out.alloc hsz _) (Nat.le_refl _))
        clear hown2 hB2
        go_wp2
        go_roundw
        case rel => exact ⟨k + 1, _, _, by omega, by go_num, rfl, by rw [List.length_append, hll]; rfl, HO, HB⟩
        case measure => simp [intOf]; omega
    · obtain rfl : k = l.length := by omega
      have HLL := Lib.hid hll
      clear hll
      go_wp2
      go_ret
      exact ⟨_, l', rfl, HLL.out, hr.out, hw.out⟩
end Go.Proofs.YtfbjmhipjfjaeaaGreatDoor

namespace Go.Proofs.YtfbjmhipjfjaeaaGreatDoor
open Pl
set_option linter.unusedVariables false
set_option linter.unusedSimpArgs false
namespace Pl
/-- A log in its life, that began as L0; its size at most M. -/
structure InL (L0 : Lg) (S : Dk) (L : Lg) (all : List Tx) (M : Int) : Prop where
  life : InLife S L all
  pol : L.pol = L0.pol
  every : L.every = L0.every
  size0 : 0 ≤ L.size
  size : L.size ≤ M
  sure : L.pol = 1 → L.broken = false → L.lasting = L.last
  low : L0.lasting ≤ L.lasting
section
variable {S : Dk} {L L0 : Lg} {all : List Tx} {M : Int}
theorem InL.fit (h : InL L0 S L all M) (hl : all.length ≤ 4611686018427387904) (hM : M ≤ 4611686018427387904) (he : 0 ≤ L0.every ∧ L0.every ≤ 9223372036854775807) : L.Fit :=
  ⟨by have := h.life.high; omega, h.life.low, h.size0, by have := h.size; omega, by rw [h.every]; exact he.1, by rw [h.every]; exact he.2⟩
theorem InL.mono {M2 : Int} (h : InL L0 S L all M) (hM : M ≤ M2) : InL L0 S L all M2 := { h with size := Int.le_trans h.size hM }
theorem dead_of (hb : L.broken = true) : L.dead = true := by unfold Lg.dead; rw [hb]; rfl
theorem alive_of (hb : L.broken = false) (hs : L.shut = false) : L.dead = false := by unfold Lg.dead; rw [hb, hs]; rfl
theorem synced_keeps (S : Dk) (L : Lg) : (L.synced S).2.1.pol = L.pol ∧ (L.synced S).2.1.every = L.every ∧ (L.synced S).2.1.size = L.size := by
  unfold Lg.synced
  split
  · exact ⟨rfl, rfl, rfl⟩
  · simp only
    split <;> exact ⟨rfl, rfl, rfl⟩
theorem append_keeps (S : Dk) (L : Lg) {b : Tx} (hb : b.length ≤ 33554300) : (L.append S b).2.1.pol = L.pol ∧ (L.append S b).2.1.every = L.every ∧ L.size ≤ (L.append S b).2.1.size ∧ (L.append S b).2.1.size ≤ L.size + 33554432 := by
  have hz : (encL (L.last + 1) b).length = 25 + b.length := encL_length _ _
  unfold Lg.append
  split
  · exact ⟨rfl, rfl, Int.le_refl _, by simp only; omega⟩
  · simp only
    split
    · exact ⟨rfl, rfl, Int.le_refl _, by simp only; omega⟩
    · split
      · obtain ⟨e1, e2, e3⟩ := synced_keeps (S.appendS logN (encL (L.last + 1) b)) (L.more (encL (L.last + 1) b))
        refine ⟨e1, e2, ?_, ?_⟩
        · simp only; rw [e3]; show L.size ≤ L.size + _; omega
        · simp only; rw [e3]; show L.size + _ ≤ _; omega
      · refine ⟨rfl, rfl, ?_, ?_⟩
        · show L.size ≤ L.size + _; omega
        · show L.size + _ ≤ _; omega
theorem rewrite_keeps (S : Dk) (L : Lg) {b : Tx} (hb : b.length ≤ 33554300) : (L.rewrite S b).2.1.pol = L.pol ∧ (L.rewrite S b).2.1.every = L.every ∧ ((L.rewrite S b).2.1.size = L.size ∨ (0 ≤ (L.rewrite S b).2.1.size ∧ (L.rewrite S b).2.1.size ≤ 33554432)) := by
  have hz := L.anew_le hb
  unfold Lg.rewrite
  split
  · exact ⟨rfl, rfl, .inl rfl⟩
  · split
    · exact ⟨rfl, rfl, .inl rfl⟩
    · split
      · exact ⟨rfl, rfl, .inl rfl⟩
      · exact ⟨rfl, rfl, .inr ⟨by simp only; omega, by simp only; omega⟩⟩
theorem InL.append (h : InL L0 S L all M) (hlive : L.broken = false) (b : Tx) (hb : b.length ≤ 33554300) (hfew : all.length ≤ 4611686018427387000) :
    all.length = L.last ∧ InL L0 (L.append S b).1 (L.append S b).2.1 (all ++ [b]) (M + 33554432) ∧
    ((L.append S b).2.2.2 = 0 → (L.append S b).2.2.1 = L.last + 1 ∧ (L.append S b).2.1.last = L.last + 1 ∧ (L.append S b).2.1.broken = false) ∧
    ((L.append S b).2.2.2 ≠ 0 → (L.append S b).2.2.1 = 0 ∧ (L.append S b).2.1.broken = true) := by
  obtain ⟨a1, a2, a3, a4, a5⟩ := h.life.append hlive b hb hfew
  obtain ⟨k1, k2, k3, k4⟩ := append_keeps S L hb
  have hs0 := h.size0
  have hs := h.size
  refine ⟨a1, ⟨a2, by rw [k1]; exact h.pol, by rw [k2]; exact h.every, by omega, by omega, fun hp hbr => ?_, Nat.le_trans h.low a3⟩, fun hx => ?_, a5⟩
  · by_cases hc : (L.append S b).2.2.2 = 0
    · obtain ⟨-, c2, -, c4⟩ := a4 hc
      rw [k1] at hp
      rw [c4 hp, c2]
    · rw [(a5 hc).2] at hbr; cases hbr
  · obtain ⟨c1, c2, c3, -⟩ := a4 hx
    exact ⟨c1, c2, c3⟩
theorem InL.sync (h : InL L0 S L all M) : InL L0 (L.sync S).1 (L.sync S).2.1 all M ∧ ((L.sync S).2.2 = 0 → (L.sync S).2.1.lasting = (L.sync S).2.1.last) := by
  unfold Lg.sync
  cases hb : L.broken with
  | true =>
    rw [if_pos (dead_of hb)]
    exact ⟨h, fun hx => by cases hx⟩
  | false =>
    rw [if_neg (by rw [alive_of hb h.life.shut]; decide)]
    obtain ⟨g, F, f, bs, m, ha⟩ := h.life.live hb
    obtain ⟨s1, s2, s3, s4, s5⟩ := ha.synced h.life.inv h.life.shut
    obtain ⟨k1, k2, k3⟩ := synced_keeps S L
    refine ⟨⟨s1, by rw [k1]; exact h.pol, by rw [k2]; exact h.every, by rw [k3]; exact h.size0, by rw [k3]; exact h.size, fun hp hbr => ?_, Nat.le_trans h.low s3⟩, fun hx => by rw [(s4 hx).1, s2]⟩
    by_cases hc : (L.synced S).2.2 = 0
    · rw [(s4 hc).1, s2]
    · rw [s5 hc] at hbr; cases hbr
theorem InL.rewrite (h : InL L0 S L all M) (hlive : L.broken = false) (hb : (wholeB all).length ≤ 33554299) (hfew : all.length ≤ 4611686018427387000) (hM : 33554432 ≤ M) :
    InL L0 (L.rewrite S (61 :: wholeB all)).1 (L.rewrite S (61 :: wholeB all)).2.1 all M := by
  obtain ⟨r1, r2, r3, r4⟩ := h.life.rewrite hlive hb hfew
  obtain ⟨k1, k2, k3⟩ := rewrite_keeps S L (b := 61 :: wholeB all) (by simp only [List.length_cons]; omega)
  have hs0 := h.size0
  have hs := h.size
  refine ⟨r1, by rw [k1]; exact h.pol, by rw [k2]; exact h.every, by omega, by omega, fun hp hbr => ?_, Nat.le_trans h.low r2⟩
  rw [k1] at hp
  rw [r3]
  exact r4 (h.sure hp hlive) hbr
theorem InL.behind (h : InL L0 S L all M) (hx : L.last < all.length) : L.broken = true := by
  cases hb : L.broken with
  | true => rfl
  | false =>
    obtain ⟨g, F, f, bs, m, ha⟩ := h.life.live hb
    have := ha.allN
    omega
/-- How much is asked for. -/
def wtO (os : List Oq) : Nat := (os.map fun o => 1 + o.body.length).sum
theorem wtO_take {os : List Oq} {k : Nat} {x : Oq} (hx : os[k]? = some x) : wtO (os.take (k + 1)) = wtO (os.take k) + (1 + x.body.length) := by
  unfold wtO
  rw [List.take_add_one, hx]
  simp
theorem wtO_le (os : List Oq) (k : Nat) : wtO (os.take k) ≤ wtO os := by
  have e : os = os.take k ++ os.drop k := (List.take_append_drop k os).symm
  have : wtO os = wtO (os.take k) + wtO (os.drop k) := by conv => lhs; rw [e]
                                                          unfold wtO; rw [List.map_append, List.sum_append]
  omega
theorem wtO_len (os : List Oq) : os.length ≤ wtO os := by
  unfold wtO
  induction os with
  | nil => simp
  | cons o r ih => simp only [List.map_cons, List.sum_cons, List.length_cons]; omega
theorem wholeB_le (ts : List Tx) : (wholeB ts).length ≤ (ts.map List.length).sum := by have := wholeB_take_le ts ts.length; rwa [List.take_length] at this
end
end Pl
end Go.Proofs.YtfbjmhipjfjaeaaGreatDoor

namespace Go.Proofs.YtfbjmhipjfjaeaaGreatDoor
open Go.ChangeShapes Go.WideShapes Go.ChangeAt Go.RowKit Go.Maps Pl
set_option linter.unusedVariables false
set_option linter.unusedSimpArgs false
theorem LW.kept {P K : Nat → Prop} {w w' : World} {l b : Nat} {a : Addr} {S : Dk} {L : Lg} (h : LW P w l b a S L) (hw : Wr K w w') (hP : ∀ k, P k → ¬ K k) (hl : ¬ K l) (h3 : ∀ k, K k → 3 ≤ k) : LW P w' l b a S L :=
  ⟨h.one.kept hw hP, h.log.kept hw hl, h.sent.kept hw h.three (fun k hk hk2 => by have := h3 k hk2; omega), h.nl, h.n1, h.ll⟩
theorem Texts.beside {base : Nat} {w w' : World} {v : Value} {bs : List Tx} {K : Nat → Prop} (h : Texts w base v bs) (hw : Wr K w w') (hK : ∀ k, v.ownBlock = some k → ¬ K k) : Texts w' base v bs := by
  refine ⟨h.1, h.2.imp id ?_⟩
  rintro ⟨g, cap, cur, rfl, h2, h3, r⟩
  exact ⟨g, cap, cur, rfl, h2, (hw.block g (Array.getElem?_eq_some_iff.1 h3).1 (hK g rfl)).trans h3, r⟩
theorem Texts.base {base base2 : Nat} {w : World} {v : Value} {bs : List Tx} (h : Texts w base v bs) (hb : base2 ≤ base) : Texts w base2 v bs := by
  refine ⟨h.1, h.2.imp id ?_⟩
  rintro ⟨g, cap, cur, rfl, h2, h3, r⟩
  exact ⟨g, cap, cur, rfl, Nat.le_trans hb h2, h3, r⟩
/-- A beginning of a row of texts. -/
theorem Texts.cut {base n cp : Nat} {w : World} {ao : Option Addr} {ts : List Tx} (h : Texts w base (.slice ao ts.length cp) ts) (hn : n ≤ ts.length) : Texts w base (.slice ao n cp) (ts.take n) := by
  have hl : (ts.take n).length = n := by rw [List.length_take]; omega
  refine ⟨by simp, ?_⟩
  rw [hl]
  rcases h.2 with ⟨h1, h2⟩ | ⟨g, cap, cur, h1, h2, h3, h4, h5, h6, h7⟩
  · simp only [Value.slice.injEq] at h1
    obtain ⟨rfl, -, rfl⟩ := h1
    have : n = 0 := by omega
    subst this
    exact .inl ⟨rfl, rfl⟩
  · simp only [Value.slice.injEq] at h1
    obtain ⟨rfl, -, rfl⟩ := h1
    refine .inr ⟨g, cp, cur, rfl, h2, h3, by omega, h5, h6, ?_⟩
    rw [List.map_take, ← h7, List.take_take]
    congr 1
    omega
/-- A log at l, its disk at b, texts at v' beside them; begun at w with v. -/
structure LifeAt (X : Nat → Prop) (B : Nat) (P P' : Nat → Prop) (w : World) (l b : Nat) (a : Addr) (v : Value) (wr : World) (S : Dk) (L : Lg) (all : List Tx) (v' : Value) : Prop where
  lw : LW P' wr l b a S L
  ps : ∀ k, P' k → P k ∨ w.heap.size ≤ k
  plt : ∀ k, P' k → k < wr.heap.size
  txt : Texts wr B v' all
  own : ∀ k, v'.ownBlock = some k → ¬ P' k ∧ k ≠ l
  owns : ∀ k, v'.ownBlock = some k → v.ownBlock = some k ∨ w.heap.size ≤ k
  far : Wr (fun k => P k ∨ k = l ∨ v.ownBlock = some k) w wr
  hB : B ≤ w.heap.size
  b3 : 3 ≤ B
  hX : ∀ k, X k → k < wr.heap.size ∧ ¬ P' k ∧ k ≠ l ∧ v'.ownBlock ≠ some k
def LifeSt (X : Nat → Prop) (B : Nat) (P : Nat → Prop) (w : World) (l b : Nat) (a : Addr) (v : Value) (wr : World) (S : Dk) (L : Lg) (all : List Tx) (v' : Value) : Prop := ∃ P', LifeAt X B P P' w l b a v wr S L all v'
section
variable {X : Nat → Prop} {B : Nat} {P : Nat → Prop} {w wr w2 : World} {l b : Nat} {a : Addr} {v v' : Value} {S S2 : Dk} {L L2 : Lg} {all : List Tx}
theorem LifeSt.start (h : LW P w l b a S L) (ht : Texts w B v all) (ho : ∀ k, v.ownBlock = some k → ¬ P k ∧ k ≠ l) (hB : B ≤ w.heap.size) (h3 : 3 ≤ B) : LifeSt (fun _ => False) B P w l b a v w S L all v :=
  ⟨_, h.bounded, fun k hk => .inl hk.1, fun k hk => hk.2, ht, fun k hk => ⟨fun hp => (ho k hk).1 hp.1, (ho k hk).2⟩, fun k hk => .inl hk, Wr.refl _ _, hB, h3, fun k hk => hk.elim⟩
theorem LifeSt.below (h : LifeSt X B P w l b a v wr S L all v') (hb : Below wr.heap.size wr w2) : LifeSt X B P w l b a v w2 S L all v' := by
  obtain ⟨P', h⟩ := h
  exact ⟨P', h.lw.below hb, h.ps, fun k hk => Nat.lt_of_lt_of_le (h.plt k hk) hb.size, h.txt.below hb, h.own, h.owns, h.far.trans (Wr.of_below (F := fun _ => False) hb) (fun _ h => h.elim), h.hB, h.b3, fun k hk => ⟨Nat.lt_of_lt_of_le (h.hX k hk).1 hb.size, (h.hX k hk).2⟩⟩
theorem LifeSt.drop (h : LifeSt X B P w l b a v wr S L all v') : LifeSt (fun _ => False) B P w l b a v wr S L all v' := by
  obtain ⟨P', h⟩ := h
  exact ⟨P', { h with hX := fun k hk => hk.elim }⟩
theorem LifeAt.lt {P' : Nat → Prop} (h : LifeAt X B P P' w l b a v wr S L all v') : ∀ k, v'.ownBlock = some k → B ≤ k ∧ k < wr.heap.size := World.ownsRow.lt h.txt
theorem LifeSt.size (h : LifeSt X B P w l b a v wr S L all v') : w.heap.size ≤ wr.heap.size := by obtain ⟨P', h⟩ := h; exact h.far.size
theorem LifeSt.log (h : LifeSt X B P w l b a v wr S L all v') : LogAt wr l b L := by obtain ⟨P', h⟩ := h; exact h.lw.log
theorem LifeSt.tat (h : LifeSt X B P w l b a v wr S L all v') : TAt wr v' all := by obtain ⟨P', h⟩ := h; exact h.txt.tat
theorem LifeSt.owned (h : LifeSt X B P w l b a v wr S L all v') : World.ownsRow wr B 9 1 v' all.length (all.map fun t => .string (str t)) := by obtain ⟨P', h⟩ := h; exact h.txt
/-- A new box. -/
theorem LifeSt.box (h : LifeSt (fun _ => False) B P w l b a v wr S L all v') (o : Obj) : LifeSt (fun k => k = wr.heap.size) B P w l b a v (wr.alloc o) S L all v' := by
  obtain ⟨P', h⟩ := h
  have hb : Below wr.heap.size wr (wr.alloc o) := (Below.refl _ _).alloc (Nat.le_refl _) o
  refine ⟨P', h.lw.below hb, h.ps, fun k hk => Nat.lt_of_lt_of_le (h.plt k hk) hb.size, h.txt.below hb, h.own, h.owns, h.far.trans (Wr.of_below (F := fun _ => False) hb) (fun _ h => h.elim), h.hB, h.b3, fun k hk => ?_⟩
  subst hk
  refine ⟨by simp, fun hp => Nat.lt_irrefl _ (h.plt _ hp), fun e => ?_, fun e => ?_⟩
  · have := h.lw.log.lt; omega
  · have := (h.lt _ e).2; omega
/-- A call on the log. -/
theorem LifeSt.calls {f : FuncId} {args : Array Value} {R : Ending → Prop} (h : LifeSt X B P w l b a v wr S L all v') (hc : ∀ P', LW P' wr l b a S L → Calls Tryz.prog f args wr fun e w2 => R e ∧ LgEnd P' wr l b a S2 L2 w2) :
    Calls Tryz.prog f args wr fun e w2 => R e ∧ LifeSt X B P w l b a v w2 S2 L2 all v' ∧ ∀ k, X k → w2.heap[k]? = wr.heap[k]? := by
  obtain ⟨P', h⟩ := h
  refine (hc P' h.lw).mono ?_
  rintro e w2 ⟨hr, P2, l2, k2, r2⟩
  have hlw := h.lw.log.lt
  refine ⟨hr, ⟨fun k => P2 k ∧ k < w2.heap.size, l2.bounded, fun k hk => ?_, fun k hk => hk.2, ?_, fun k hk => ?_, h.owns, h.far.trans r2 fun k hk => ?_, h.hB, h.b3, fun k hk => ?_⟩, fun k hk => ?_⟩
  · rcases k2 k hk.1 with hp | hp
    · exact h.ps k hp
    · exact .inr (Nat.le_trans h.far.size hp)
  · exact h.txt.beside r2 fun k hk hx => hx.elim (h.own k hk).1 (h.own k hk).2
  · obtain ⟨q1, q2⟩ := h.own k hk
    refine ⟨fun hp => ?_, q2⟩
    rcases k2 k hp.1 with hp2 | hp2
    · exact q1 hp2
    · have := (h.lt k hk).2; omega
  · rcases hk with hk | hk
    · exact (h.ps k hk).imp .inl id
    · exact .inl (.inr (.inl hk))
  · obtain ⟨x1, x2, x3, x4⟩ := h.hX k hk
    refine ⟨Nat.lt_of_lt_of_le x1 r2.size, fun hp => ?_, x3, x4⟩
    rcases k2 k hp.1 with hp2 | hp2
    · exact x2 hp2
    · omega
  · obtain ⟨x1, x2, x3, x4⟩ := h.hX k hk
    exact r2.block k x1 fun hp => hp.elim x2 x3
end
section
variable {ops : Array Oper} {rest : List Oper} {o : Oper} {ac : Act} {Q : Exit → Act → World → Prop}
variable {X : Nat → Prop} {B : Nat} {P : Nat → Prop} {w wr : World} {l b : Nat} {a : Addr} {v v' : Value} {S : Dk} {L : Lg} {all : List Tx}
/-- 'all = append(all, x)', one text. -/
theorem wpList_append_all (h : LifeSt X B P w l b a v wr S L all v') (hgd : o.guard = none) (s x : Operand) (ho : o.op = .call { callee := .builtin .append, args := #[s, x], argTypes := #[23, 23] })
    (hs : ac.eval s = v') (t : Tx) (hx : ac.eval x = .slice (some ⟨wr.heap.size, 0, none⟩) 1 1) (hlen : all.length ≤ 4194304)
    (hk : ∀ v2 w2, LifeSt X B P w l b a v w2 S L (all ++ [t]) v2 → (∀ k, X k → w2.heap[k]? = wr.heap[k]?) → (∃ ao cp, v2 = .slice ao (all.length + 1) cp) → wpList Tryz.prog ops Q rest (ac.put o.dst v2) w2) :
    wpList Tryz.prog ops Q (o :: rest) ac (wr.alloc (.cells #[.string (str t)] 9)) := by
  refine wpList_plain hgd fun _ hK => ?_
  obtain ⟨i, hi, hz, hsz, hby⟩ := info_parts infoS
  obtain ⟨P', h⟩ := h
  obtain ⟨v2, w2, hr, h2, h3, h4, h5⟩ := run_append_own_at (P := Tryz.prog) (wr.alloc (.cells #[.string (str t)] 9)) B 23 o.type 9 i _ 1 16 Tryz.underlying23 hi hz hsz hby rfl (by omega) v' _ _ (World.ownsRow.alloc h.txt _) ⟨wr.heap.size, 0, none⟩ 1 1 [.string (str t)] rfl (cell_one_new _ _ _) (by simp; rfl) (by unfold maxLen; omega) (by omega) (by have := h.far.size; have := h.hB; simp; omega)
  have hg2 : wr.grownBy w2 v'.ownBlock := World.grownBy.trans (World.grownBy_alloc wr _ _) h3
  have hW : Wr (fun k => v'.ownBlock = some k) wr w2 := (Wr.refl _ wr).grown hg2 fun k hk => .inl hk
  have hlt := h.lw.log.lt
  have hown2 : ∀ k, v2.ownBlock = some k → v'.ownBlock = some k ∨ wr.heap.size ≤ k := fun k hk => by
    rcases h5 with h5 | h5
    · exact .inl (h5 ▸ hk)
    · rw [h5] at hk; cases hk; exact .inr (by simp)
  have htx : Texts w2 B v2 (all ++ [t]) := by
    unfold Texts
    rw [List.length_append, List.map_append]
    exact h2
  unfold Oper.wp execOp
  simp only [ho, resolve, invoke, builtin, Sem.run_bind, Sem.run_pure, Result.andThen_ok, List.map_toArray, List.map_cons, List.map_nil, hs, hx, hr]
  have hsh : ∃ ao cp, v2 = .slice ao (all.length + 1) cp := by
    rcases htx.2 with ⟨-, he⟩ | ⟨g, cap, cur, he, -⟩
    · rw [List.length_append] at he; simp at he
    · rw [List.length_append] at he; exact ⟨_, _, he⟩
  refine hK _ _ (hk v2 w2 ⟨P', h.lw.kept hW (fun k hk hx => (h.own k hx).1 hk) (fun hx => (h.own l hx).2 rfl) (fun k hx => Nat.le_trans h.b3 (h.lt k hx).1), h.ps, fun k hk => Nat.lt_of_lt_of_le (h.plt k hk) hg2.size, htx, fun k hk => ?_, fun k hk => ?_, h.far.trans hW fun k hk => ?_, h.hB, h.b3, fun k hk => ?_⟩ (fun k hk => ?_) hsh)
  · rcases hown2 k hk with hk2 | hk2
    · exact h.own k hk2
    · exact ⟨fun hp => by have := h.plt k hp; omega, by omega⟩
  · rcases hown2 k hk with hk2 | hk2
    · exact h.owns k hk2
    · exact .inr (Nat.le_trans h.far.size hk2)
  · exact (h.owns k hk).imp (fun hk => .inr (.inr hk)) id
  · obtain ⟨x1, x2, x3, x4⟩ := h.hX k hk
    refine ⟨Nat.lt_of_lt_of_le x1 hg2.size, x2, x3, fun e => ?_⟩
    rcases hown2 k e with hk2 | hk2
    · exact x4 hk2
    · omega
  · obtain ⟨x1, x2, x3, x4⟩ := h.hX k hk
    exact hW.block k x1 x4
end
end Go.Proofs.YtfbjmhipjfjaeaaGreatDoor
