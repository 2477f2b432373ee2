/- The reference's set of a list. -/
import Derived.Test.YtjceoigekifgdaaMem1
import Derived.OneCell
namespace Go.Proofs.Ytjceoigekifgdaa
open Go.ChangeShapes Go.WideShapes Go.ChangeAt Go.RowKit
set_option linter.unusedVariables false

def strV (l : Tx) : Value := .string (str l)
/-- A row of texts that the call made. -/
def Made (w w' : World) (v : Value) (xs : List Tx) : Prop := Row w' (fun k => w.heap.size ≤ k) 9 v (xs.map strV)
def MadeEnd (xs : List Tx) (w : World) (e : Ending) (w' : World) : Prop := ∃ v, e = .returned v ∧ Made w w' v xs ∧ Below w.heap.size w w'
theorem Made.shape {w w' : World} {v : Value} {xs : List Tx} (h : Made w w' v xs) : ∃ ao cp, v = .slice ao xs.length cp := by
  obtain ⟨ao, cp, e⟩ := Row.shape h
  exact ⟨ao, cp, by rw [e, List.length_map]⟩
theorem Made.full {w w' : World} {v : Value} {xs : List Tx} (h : Made w w' v xs) (h0 : 0 < xs.length) :
    ∃ g cp, v = .slice (some ⟨g, 0, none⟩) xs.length cp ∧ w.heap.size ≤ g ∧ g < w'.heap.size ∧ (∃ cur, w'.heap[g]? = some (.cells cur 9 (0, 0))) ∧ ∀ j x, xs[j]? = some x → w'.cell? ⟨g, j, none⟩ = some (.string (str x)) := by
  obtain ⟨g, cp, e, h1, h2, h3, h4⟩ := Row.full h (by simpa using h0)
  exact ⟨g, cp, by rw [e, List.length_map], h1, h2, h3, fun j x hx => h4 j (strV x) (by simp [hx])⟩
theorem Made.trow {w w' : World} {v : Value} {xs : List Tx} (h : Made w w' v xs) : TRow w' v xs := by
  by_cases h0 : 0 < xs.length
  · obtain ⟨g, cp, rfl, _, hl, _, hc⟩ := h.full h0
    refine ⟨_, cp, by rw [strs_length], .inr ⟨g, 0, rfl, hl, fun j x hx => ?_⟩⟩
    obtain ⟨t, ht, rfl⟩ : ∃ t, xs[j]? = some t ∧ str t = x := by simpa [strs] using hx
    rw [Nat.zero_add]
    exact hc j t ht
  · obtain rfl : xs = [] := List.eq_nil_of_length_eq_zero (by omega)
    obtain ⟨ao, cp, rfl⟩ := h.shape
    exact ⟨ao, cp, rfl, .inl rfl⟩
theorem Made.nil (w w' : World) : Made w w' (.slice none 0 0) [] := Row.nil _ _ _
theorem Made.kept {w w1 w2 : World} {v : Value} {xs : List Tx} (h : Made w w1 v xs) (hb : Below w1.heap.size w1 w2) : Made w w2 v xs := Row.kept (G := fun _ => False) h (Wr.of_below hb) (fun _ _ h => h)
theorem Made.later {w0 w w' : World} {v : Value} {xs : List Tx} (h : Made w w' v xs) (hw : w0.heap.size ≤ w.heap.size) : Made w0 w' v xs := Row.mono h fun k hk => by omega
theorem Made.drewN {w w1 : World} {v : Value} {xs : List Tx} (h : Made w w1 v xs) (n : Nat) : Made w (w1.drewN n) v xs := h.kept (below_drewN (Below.refl _ _) n)
theorem Made.owns {w w' : World} {v : Value} {xs : List Tx} (h : Made w w' v xs) : w'.ownsRow w.heap.size 9 1 v xs.length (xs.map strV) := by
  obtain ⟨⟨h1, h2⟩, h3⟩ := h
  rw [List.length_map] at h1 h2
  refine ⟨by rw [List.length_map]; simp, h2.imp id ?_⟩
  rintro ⟨g, cap, cur, rfl, _, r⟩
  exact ⟨g, cap, cur, rfl, h3 g rfl, r⟩
theorem Made.of {w w' : World} {v : Value} {xs : List Tx} {n : Nat} (h : w'.ownsRow w.heap.size 9 1 v n (xs.map strV)) : Made w w' v xs := by
  have hn : n = xs.length := by have := h.1; simpa using this.symm
  subst hn
  refine ⟨?_, fun g hg => (h.lt g hg).1⟩
  rw [List.length_map]
  refine ⟨h.1, h.2.imp id ?_⟩
  rintro ⟨g, cap, cur, e, _, r⟩
  exact ⟨g, cap, cur, e, Nat.zero_le _, r⟩
theorem infoS : (Try.prog.info? 9).map (fun i => (i.zero, i.size, i.bytes)) = some (some (.string ⟨#[]⟩), 1, 16) := by kernel_rfl
/-- A store into a row that the call made. -/
theorem Made.store {w w1 : World} {g n cp : Nat} {xs : List Tx} (h : Made w w1 (.slice (some ⟨g, 0, none⟩) n cp) xs) {k : Nat} (hk : k < xs.length) (x : Tx) : Made w (w1.setCell ⟨g, k, none⟩ (strV x)) (.slice (some ⟨g, 0, none⟩) n cp) (xs.set k x) := by
  obtain ⟨⟨h1, h2⟩, h3⟩ := h
  refine ⟨⟨by simp, ?_⟩, h3⟩
  rcases h2 with ⟨e, _⟩ | ⟨g', cap, cur, e, hb, hg, r1, r2, r3, r4⟩
  · simp at e
  · simp only [Value.slice.injEq, Option.some.injEq, Addr.mk.injEq, and_true, List.length_map] at e
    obtain ⟨rfl, e2, rfl⟩ := e
    rw [List.length_map] at r1 r4
    refine .inr ⟨g, cp, cur.setIfInBounds k (strV x), by simp [e2], hb, ?_, by simpa using r1, r2, by simpa using r3, ?_⟩
    · simp [World.setCell, Array.getElem?_modify, hg]
    · rw [List.length_map, List.length_set, Array.toList_setIfInBounds, Nat.mul_one, List.take_set]
      rw [Nat.mul_one] at r4
      rw [r4, List.map_set]
theorem Below.setNew {B : Nat} {a w : World} (h : Below B a w) {p : Addr} (hp : B ≤ p.block) (u : Value) : Below B a (w.setCell p u) := h.setCell hp u

theorem less_str (a b : Tx) : Op.bytesLess (str a).toList (str b).toList = decide (a < b) := by rw [strList, strList, bytesLess_eq]
theorem eq_str (a b : Tx) : ((str a).toList == (str b).toList) = decide (a = b) := by rw [strList, strList, Bool.eq_iff_iff]; simp

theorem ins_place {L : List Tx} {x : Tx} {j : Nat} (hr : Pl.Rising L) (hj : j ≤ L.length) (h1 : ∀ q (hq : q < L.length), q < j → ¬ x < L[q]) (h2 : ∀ q (hq : q < L.length), j ≤ q → x < L[q]) (hne : (h : 0 < j) → L[j - 1]'(by omega) ≠ x) : Pl.ins x L = L.take j ++ x :: L.drop j := by
  rw [Pl.ins_at L x j hr hj h1 h2, dif_neg]
  rintro ⟨h0, hk, e⟩
  exact hne h0 e
theorem ins_same {L : List Tx} {x : Tx} {j : Nat} (hr : Pl.Rising L) (hj : j ≤ L.length) (h1 : ∀ q (hq : q < L.length), q < j → ¬ x < L[q]) (h2 : ∀ q (hq : q < L.length), j ≤ q → x < L[q]) (h0 : 0 < j) (he : L[j - 1]'(by omega) = x) : Pl.ins x L = L := by
  rw [Pl.ins_at L x j hr hj h1 h2, dif_pos ⟨h0, by omega, he⟩]
theorem before {L : List Tx} {x : Tx} (hr : Pl.Rising L) {p q : Nat} (hq : q < L.length) (hqp : q ≤ p) (hp : p < L.length) (h : ¬ x < L[p]) : ¬ x < L[q] := by
  by_cases e : q = p
  · subst e; exact h
  · exact fun h2 => h (Pl.ltT h2 (List.pairwise_iff_getElem.1 hr q p hq hp (by omega)))
theorem appended {w w5 : World} {v5 : Value} {L : List Tx} (h : w5.ownsRow w.heap.size 9 1 v5 (L.length + 1) (L.map strV ++ [.string ⟨#[]⟩])) (hb : Below w.heap.size w w5) : ∃ a5 c5, v5 = .slice a5 (L.length + 1) c5 ∧ Hid (Made w w5 (.slice a5 (L.length + 1) c5) (L ++ [[]]) ∧ Below w.heap.size w w5) := by
  have hM : Made w w5 v5 (L ++ [[]]) := Made.of (n := L.length + 1) (by rw [List.map_append]; exact h)
  obtain ⟨a5, c5, e⟩ := hM.shape
  rw [List.length_append] at e
  exact ⟨a5, c5, e, by rw [e] at hM; exact hM, hb⟩
set_option maxHeartbeats 6400000 in
set_option maxRecDepth 100000 in
theorem refOf_any (ts : List Tx) (v : Value) (hn : ts.length ≤ 8796093022000) (w : World) (h : TRow w v ts) :
    Calls Try.prog 20 #[v] w fun e w' => MadeEnd (Pl.ofS ts) w e w' := by
  obtain ⟨ao, cp, rfl, hh⟩ := h.open
  have H := Lib.hid hh
  clear h hh
  go_enter Try.func20, Try.ntmps20
  go_wp2
  go_loopw [3, 4] (fun o i wr => ∃ (k : Nat) (oa : Option Addr) (oc : Nat), k ≤ ts.length ∧ i = .int .i64 k ∧ o = .slice oa (Pl.ofS (ts.take k)).length oc ∧ Hid (Made w wr (.slice oa (Pl.ofS (ts.take k)).length oc) (Pl.ofS (ts.take k)) ∧ Below w.heap.size w wr)) (fun _ i _ => ts.length - (intOf i).toNat)
  case atStart => exact ⟨0, none, 0, Nat.zero_le _, rfl, rfl, Made.nil _ _, Below.refl _ _⟩
  case round =>
    obtain ⟨k, oa, oc, hk, rfl, rfl, hM⟩ := hrel
    by_cases hlt : k < ts.length
    · obtain ⟨x, hx⟩ : ∃ x, ts[k]? = some x := ⟨ts[k], List.getElem?_eq_getElem hlt⟩
      rcases H.out with h0 | ⟨g, off, rfl, hg, hc⟩
      · rw [h0] at hlt; exact absurd hlt (Nat.not_lt_zero _)
      have hx0 := hc k x hx
      have HX := Lib.hid hx
      clear hc hx
      have hkI : (k : Int) < (ts.length : Int) := by omega
      have hk0 : (0 : Int) ≤ (k : Int) := by omega
      obtain ⟨L, hL⟩ : ∃ L, Pl.ofS (ts.take k) = L := ⟨_, rfl⟩
      rw [hL] at hM
      have hLl : L.length ≤ k := by rw [← hL]; have := Pl.ofS_length (ts.take k); rw [List.length_take] at this; omega
      have HL := Lib.hid hL
      have HR := Lib.hid (hL ▸ Pl.rising_ofS (ts.take k))
      rw [hL]
      clear hL
      obtain ⟨wo, rfl⟩ : ∃ wo : World, wo = wr := ⟨_, rfl⟩
      have hxc : ∀ n, (wo.drewN n).cell? ⟨g, off + k, none⟩ = some (.string (str x)) := fun n => ((below_drewN hM.out.2 n).cell (p := ⟨g, off + k, none⟩) hg).trans hx0
      go_wp2
      go_loopw [5] (fun a w2 => ∃ j : Nat, j ≤ L.length ∧ a = .int .i64 j ∧ Hid (∀ q (hq : q < L.length), j ≤ q → x < L[q]) ∧ Hid (∃ n, w2 = wo.drewN n)) (fun a _ => (intOf a).toNat)
      case atStart => exact ⟨L.length, Nat.le_refl _, rfl, fun q hq h => by omega, ⟨0, rfl⟩⟩
      case round =>
        obtain ⟨j, hj, rfl, hafter, hW2⟩ := hrel
        obtain ⟨n, rfl⟩ := hW2.out
        clear hW2
        rcases Nat.eq_zero_or_pos j with h0 | h0
        · have hd : decide (0 < j) = false := by rw [decide_eq_false_iff_not]; omega
          have HAT := Lib.hid (ins_place HR.out hj (fun q hq hqj => by omega) hafter.out (fun h => by omega))
          clear h0
          go_wp2_with fail
          go_quiet (fail)
          go_wp2_with fail
          go_quiet (fail)
          go_wp2_with (at_builtin; refine wpList_append_one _ rfl _ _ 22 rfl w.heap.size 9 (.string ⟨#[]⟩) 16 Try.underlying22 infoS rfl _ L.length (L.map strV) rfl (by exact hM.out.1.owns) (.string ⟨#[]⟩) rfl rfl (by simp only [maxLen]; omega) (by omega) (by exact hM.out.2.size) ?_; intro v5 w5 hown5 hg5 hbl; have hb5 := hbl w w.heap.size (by first | exact below_drewN hM.out.2 _ | exact below_drewN (below_drewN hM.out.2 _) _ | exact below_drewN (below_drewN (below_drewN hM.out.2 _) _) _) (Nat.le_refl _); clear hbl hg5; obtain ⟨a5, c5, rfl, HM5⟩ := appended hown5 hb5; clear hown5 hb5)
          go_loopw [6] (fun i w3 => ∃ q : Nat, j ≤ q ∧ q ≤ L.length ∧ i = .int .i64 q ∧ Hid (Made w w3 (.slice a5 (L.length + 1) c5) (Pl.shift L q) ∧ Below w.heap.size w w3)) (fun i _ => (intOf i).toNat)
          case atStart => exact ⟨L.length, hj, Nat.le_refl _, rfl, by rw [Pl.shift_start]; exact HM5.out⟩
          case round =>
            obtain ⟨q, hjq, hq, rfl, HQ⟩ := hrel
            clear HM5
            obtain ⟨g5, x5, e5, hg5, hl5, ⟨cur5, hcur5⟩, hc5⟩ := HQ.out.1.full (by rw [Pl.shift_length L q hq]; omega)
            rw [Pl.shift_length L q hq, Value.slice.injEq] at e5
            obtain ⟨rfl, _, rfl⟩ := e5
            have hfz : ∀ i, wr.frozen? ⟨g5, i, none⟩ = false := fun i => by simp only [World.frozen?, hcur5]; simp
            by_cases hqj : j < q
            · obtain ⟨p, rfl⟩ : ∃ p, q = p + 1 := ⟨q - 1, by omega⟩
              have hp : p < L.length := by omega
              have r1 := hc5 p (L[p]'hp) (by have := Pl.shift_get (l := L) (k := p + 1) (by omega) hq; simpa using this)
              have r2 := hc5 (p + 1) ((Pl.shift L (p + 1))[p + 1]'(by rw [Pl.shift_length L _ hq]; omega)) (List.getElem?_eq_getElem _)
              have hz := hfz (p + 1)
              have hdq : decide (j < p + 1) = true := by rw [decide_eq_true_iff]; omega
              have hpI : (p : Int) < ((L.length + 1 : Nat) : Int) := by omega
              have hpI2 : ((p + 1 : Nat) : Int) < ((L.length + 1 : Nat) : Int) := by omega
              have hst := HQ.out.1.store (k := p + 1) (by rw [Pl.shift_length L _ hq]; omega) (L[p]'hp)
              have hset := Pl.shift_set (l := L) (k := p + 1) (by omega) hq
              simp only [Nat.add_sub_cancel] at hset
              rw [hset] at hst
              have HST := Lib.hid (And.intro hst (HQ.out.2.setCell (p := ⟨g5, p + 1, none⟩) hg5 (strV (L[p]'hp))))
              generalize (L[p]'hp) = z at *
              generalize ((Pl.shift L (p + 1))[p + 1]'_) = z2 at *
              clear hc5 hst hset hcur5 hfz
              go_wp2
              go_roundw
              case rel => exact ⟨p, by omega, by omega, by go_num, HST.out⟩
              case measure => simp [intOf]
            · obtain rfl : j = q := by omega
              have hxw : wr.cell? ⟨g, off + k, none⟩ = some (.string (str x)) := (HQ.out.2.cell (p := ⟨g, off + k, none⟩) hg).trans hx0
              have r2 := hc5 j ((Pl.shift L j)[j]'(by rw [Pl.shift_length L _ hq]; omega)) (List.getElem?_eq_getElem _)
              have hz := hfz j
              have hdq : decide (j < j) = false := by rw [decide_eq_false_iff_not]; omega
              have hst := HQ.out.1.store (k := j) (by rw [Pl.shift_length L _ hq]; omega) x
              rw [Pl.shift_end hq, ← HAT.out] at hst
              have hnext : Pl.ofS (ts.take (k + 1)) = Pl.ins x L := by rw [take_one HX.out, Pl.ofS_snoc, HL.out]
              have hlen2 : (Pl.ins x L).length = L.length + 1 := by rw [HAT.out, List.length_append, List.length_cons, List.length_take, List.length_drop]; omega
              have HST := Lib.hid (And.intro hst (HQ.out.2.setCell (p := ⟨g5, j, none⟩) hg5 (strV x)))
              have HN := Lib.hid (And.intro hnext hlen2)
              have hjI : (j : Int) < ((L.length + 1 : Nat) : Int) := by omega
              generalize ((Pl.shift L j)[j]'_) = z2 at *
              clear hc5 hst hcur5 hfz hnext hlen2 hxc
              go_wp2
              go_roundw
              case rel => exact ⟨k + 1, _, c5, by omega, by go_num, by rw [HN.out.1, HN.out.2], by rw [HN.out.1, HN.out.2]; exact HST.out⟩
              case measure => simp [intOf]; omega
        · obtain ⟨p, hjp⟩ : ∃ p, j = p + 1 := ⟨j - 1, by omega⟩
          have hp : p < L.length := by omega
          have hjI : ((j : Nat) : Int) - 1 = (p : Int) := by omega
          obtain ⟨y, hy⟩ : ∃ y, L[p]? = some y := ⟨L[p], List.getElem?_eq_getElem hp⟩
          obtain ⟨go, co, eo, _, hgl, _, hoc⟩ := hM.out.1.full (by omega)
          rw [Value.slice.injEq] at eo
          obtain ⟨rfl, _, rfl⟩ := eo
          have hyc := hoc p y hy
          have hyx : L[p] = y := (List.getElem?_eq_some_iff.1 hy).2
          have HY := Lib.hid hyx
          have hd : decide (0 < j) = true := by rw [decide_eq_true_iff]; omega
          have hp0 : (0 : Int) ≤ (p : Int) := by omega
          have hp1 : (p : Int) < (L.length : Int) := by omega
          have hpm : IntKind.i64.wrap (p : Int) = (p : Int) := by unfold IntKind.wrap; simp [IntKind.signed, IntKind.bits]; omega
          have HJ := Lib.hid hjp
          clear hoc hy h0 hyx hjp
          rcases Pl.tri x y with hc | hc | hc
          · have b1 : Op.bytesLess (str y).toList (str x).toList = false := by rw [less_str, decide_eq_false (Pl.ltA hc)]
            have b2 : ((str y).toList == (str x).toList) = false := by rw [eq_str, decide_eq_false (fun e => Pl.ltN hc e.symm)]
            have HC := Lib.hid hc
            clear hc
            go_wp2_with fail
            go_quiet (fail)
            go_wp2
            go_roundw
            case rel =>
              refine ⟨p, by omega, by first | rfl | go_num, fun q hq hpq => ?_, ⟨_, rfl⟩⟩
              by_cases e : q = p
              · subst e; rw [HY.out]; exact HC.out
              · exact hafter.out q hq (by have := HJ.out; omega)
            case measure => have := HJ.out; simp [intOf]; omega
          · have b1 : Op.bytesLess (str y).toList (str x).toList = false := by rw [less_str, decide_eq_false (by rw [hc]; exact Pl.ltI _)]
            have b2 : ((str y).toList == (str x).toList) = true := by rw [eq_str, decide_eq_true hc.symm]
            have hsame := ins_same HR.out hj (fun q hq hqj => before HR.out hq (by have := HJ.out; omega : q ≤ p) hp (by rw [HY.out, hc]; exact Pl.ltI _)) hafter.out (by have := HJ.out; omega) (by have := HJ.out; subst this; simp only [Nat.add_sub_cancel]; rw [HY.out, hc])
            have hnext : Pl.ofS (ts.take (k + 1)) = L := by rw [take_one HX.out, Pl.ofS_snoc, HL.out, hsame]
            have HC := Lib.hid hnext
            clear hc hsame hnext
            go_wp2_with fail
            go_quiet (fail)
            go_wp2_with fail
            go_quiet (fail)
            have M2 : ∀ N, Hid (Made w (wo.drewN N) (.slice (some ⟨go, 0, none⟩) L.length oc) L ∧ Below w.heap.size w (wo.drewN N)) := fun N => ⟨hM.out.1.drewN N, below_drewN hM.out.2 N⟩
            go_wp2
            go_roundw
            case rel => exact ⟨k + 1, _, oc, by omega, by go_num, by rw [HC.out], by rw [HC.out]; exact M2 _⟩
            case measure => simp [intOf]; omega
          · have b1 : Op.bytesLess (str y).toList (str x).toList = true := by rw [less_str, decide_eq_true hc]
            have b2 : ((str y).toList == (str x).toList) = false := by rw [eq_str, decide_eq_false (Pl.ltN hc)]
            have HAT := Lib.hid (ins_place HR.out hj (fun q hq hqj => before HR.out hq (by have := HJ.out; omega : q ≤ p) hp (by rw [HY.out]; exact Pl.ltA hc)) hafter.out (fun h e => by have := HJ.out; subst this; simp only [Nat.add_sub_cancel] at e; rw [HY.out] at e; exact Pl.ltN hc e))
            clear hc
            go_wp2_with fail
            go_quiet (fail)
            go_wp2_with fail
            go_quiet (fail)
            clear hd hp0 hp1 hpm hyc hp HY hafter b1 b2 hjI HJ
            go_wp2_with (at_builtin; refine wpList_append_one _ rfl _ _ 22 rfl w.heap.size 9 (.string ⟨#[]⟩) 16 Try.underlying22 infoS rfl _ L.length (L.map strV) rfl (by exact hM.out.1.owns) (.string ⟨#[]⟩) rfl rfl (by simp only [maxLen]; omega) (by omega) (by exact hM.out.2.size) ?_; intro v5 w5 hown5 hg5 hbl; have hb5 := hbl w w.heap.size (by first | exact below_drewN hM.out.2 _ | exact below_drewN (below_drewN hM.out.2 _) _ | exact below_drewN (below_drewN (below_drewN hM.out.2 _) _) _) (Nat.le_refl _); clear hbl hg5; obtain ⟨a5, c5, rfl, HM5⟩ := appended hown5 hb5; clear hown5 hb5)
            go_loopw [6] (fun i w3 => ∃ q : Nat, j ≤ q ∧ q ≤ L.length ∧ i = .int .i64 q ∧ Hid (Made w w3 (.slice a5 (L.length + 1) c5) (Pl.shift L q) ∧ Below w.heap.size w w3)) (fun i _ => (intOf i).toNat)
            case atStart => exact ⟨L.length, hj, Nat.le_refl _, rfl, by rw [Pl.shift_start]; exact HM5.out⟩
            case round =>
              obtain ⟨q, hjq, hq, rfl, HQ⟩ := hrel
              clear HM5
              obtain ⟨g5, x5, e5, hg5, hl5, ⟨cur5, hcur5⟩, hc5⟩ := HQ.out.1.full (by rw [Pl.shift_length L q hq]; omega)
              rw [Pl.shift_length L q hq, Value.slice.injEq] at e5
              obtain ⟨rfl, _, rfl⟩ := e5
              have hfz : ∀ i, wr.frozen? ⟨g5, i, none⟩ = false := fun i => by simp only [World.frozen?, hcur5]; simp
              by_cases hqj : j < q
              · obtain ⟨p, rfl⟩ : ∃ p, q = p + 1 := ⟨q - 1, by omega⟩
                have hp : p < L.length := by omega
                have r1 := hc5 p (L[p]'hp) (by have := Pl.shift_get (l := L) (k := p + 1) (by omega) hq; simpa using this)
                have r2 := hc5 (p + 1) ((Pl.shift L (p + 1))[p + 1]'(by rw [Pl.shift_length L _ hq]; omega)) (List.getElem?_eq_getElem _)
                have hz := hfz (p + 1)
                have hdq : decide (j < p + 1) = true := by rw [decide_eq_true_iff]; omega
                have hpI : (p : Int) < ((L.length + 1 : Nat) : Int) := by omega
                have hpI2 : ((p + 1 : Nat) : Int) < ((L.length + 1 : Nat) : Int) := by omega
                have hst := HQ.out.1.store (k := p + 1) (by rw [Pl.shift_length L _ hq]; omega) (L[p]'hp)
                have hset := Pl.shift_set (l := L) (k := p + 1) (by omega) hq
                simp only [Nat.add_sub_cancel] at hset
                rw [hset] at hst
                have HST := Lib.hid (And.intro hst (HQ.out.2.setCell (p := ⟨g5, p + 1, none⟩) hg5 (strV (L[p]'hp))))
                generalize (L[p]'hp) = z at *
                generalize ((Pl.shift L (p + 1))[p + 1]'_) = z2 at *
                clear hc5 hst hset hcur5 hfz
                go_wp2
                go_roundw
                case rel => exact ⟨p, by omega, by omega, by go_num, HST.out⟩
                case measure => simp [intOf]
              · obtain rfl : j = q := by omega
                have hxw : wr.cell? ⟨g, off + k, none⟩ = some (.string (str x)) := (HQ.out.2.cell (p := ⟨g, off + k, none⟩) hg).trans hx0
                have r2 := hc5 j ((Pl.shift L j)[j]'(by rw [Pl.shift_length L _ hq]; omega)) (List.getElem?_eq_getElem _)
                have hz := hfz j
                have hdq : decide (j < j) = false := by rw [decide_eq_false_iff_not]; omega
                have hst := HQ.out.1.store (k := j) (by rw [Pl.shift_length L _ hq]; omega) x
                rw [Pl.shift_end hq, ← HAT.out] at hst
                have hnext : Pl.ofS (ts.take (k + 1)) = Pl.ins x L := by rw [take_one HX.out, Pl.ofS_snoc, HL.out]
                have hlen2 : (Pl.ins x L).length = L.length + 1 := by rw [HAT.out, List.length_append, List.length_cons, List.length_take, List.length_drop]; omega
                have HST := Lib.hid (And.intro hst (HQ.out.2.setCell (p := ⟨g5, j, none⟩) hg5 (strV x)))
                have HN := Lib.hid (And.intro hnext hlen2)
                have hjI : (j : Int) < ((L.length + 1 : Nat) : Int) := by omega
                generalize ((Pl.shift L j)[j]'_) = z2 at *
                clear hc5 hst hcur5 hfz hnext hlen2 hxc
                go_wp2
                go_roundw
                case rel => exact ⟨k + 1, _, c5, by omega, by go_num, by rw [HN.out.1, HN.out.2], by rw [HN.out.1, HN.out.2]; exact HST.out⟩
                case measure => simp [intOf]; omega
    · go_wp2
      go_ret
      obtain rfl : ts.length = k := by omega
      rw [List.take_length] at hM
      exact ⟨_, by rw [List.take_length]; rfl, hM.out.1, hM.out.2⟩
end Go.Proofs.Ytjceoigekifgdaa
