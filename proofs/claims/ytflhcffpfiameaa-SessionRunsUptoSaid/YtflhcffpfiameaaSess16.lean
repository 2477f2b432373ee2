/- Replies compared; queues compared; Like. -/
import Derived.Test.YtflhcffpfiameaaSess15
namespace Go.Proofs.Ytflhcffpfiameaa
open Go.ChangeShapes Go.WideShapes Go.ChangeAt Go.RowKit Go.Maps
set_option linter.unusedVariables false

set_option maxHeartbeats 400000 in
theorem samelist_nil (w : World) : Calls Try.prog 49 #[.slice none 0 0, .slice none 0 0] w fun e w' => e = .returned (.bool true) ∧ w = w' := by
  go_enter Try.func49, Try.ntmps49
  go_wp2_with fail
  go_loopw [5] (fun i wr => i = .int .i64 0 ∧ w = wr) (fun _ _ => 0)
  case atStart => exact ⟨rfl, rfl⟩
  case round =>
    obtain ⟨rfl, rfl⟩ := hrel
    go_wp2
    go_ret
    exact ⟨rfl, rfl⟩
set_option maxRecDepth 100000 in
set_option maxHeartbeats 1600000 in
/-- A reply without a list is the same as itself. -/
theorem same3 (k : Int) (t : ByteArray) (w : World) : Calls Try.prog 34 #[replyV k t, replyV k t] w fun e w' => e = .returned (.bool true) ∧ Below w.heap.size w w' := by
  have hb2 : Below w.heap.size w ((w.alloc (.cells #[.int .i64 k, .string t, .int .i64 0, .slice none 0 0] 31)).alloc (.cells #[.int .i64 k, .string t, .int .i64 0, .slice none 0 0] 31)) := ((Below.refl _ _).alloc (Nat.le_refl _) _).alloc (by simp) _
  have HB2 := Lib.hid hb2
  show Calls Try.prog 34 #[.agg #[.int .i64 k, .string t, .int .i64 0, .slice none 0 0], .agg #[.int .i64 k, .string t, .int .i64 0, .slice none 0 0]] w _
  clear hb2
  go_enter Try.func34, Try.ntmps34
  go_wp2_with fail
  ((with_reducible refine (samelist_nil _).mono ?_); rintro e w5 ⟨rfl, rfl⟩)
  go_wp2
  go_ret
  exact ⟨rfl, HB2.out⟩
theorem LRow.shape {w : World} {v : Value} {rs : List (List ByteArray)} (h : LRow w v rs) : ∃ ao cp, v = .slice ao rs.length cp := by
  obtain ⟨ao, cp, e, _⟩ := h; exact ⟨ao, cp, e⟩
theorem LRow.open {w : World} {ao : Option Addr} {n cp : Nat} {rs : List (List ByteArray)} (h : LRow w (.slice ao n cp) rs) {j : Nat} {r : List ByteArray} (hr : rs[j]? = some r) : ∃ g off x, ao = some ⟨g, off, none⟩ ∧ g < w.heap.size ∧ w.cell? ⟨g, off + j, none⟩ = some x ∧ SRow w x r := by
  obtain ⟨a, c, e, h⟩ := h
  cases e
  rcases h with h | ⟨g, off, rfl, hg, hc⟩
  · rw [h] at hr; simp at hr
  · obtain ⟨x, h1, h2⟩ := hc j r hr
    exact ⟨g, off, x, rfl, hg, h1, h2⟩
theorem QRow.lrow {B : Nat} {w : World} {v : Value} {q : List (List ByteArray)} (h : QRow B w v q) : LRow w v q := by
  obtain ⟨xs, h1, h2, h3, h4⟩ := h
  rcases h2.2 with ⟨e, h0⟩ | ⟨g, cap, cur, e, _, hg, _⟩
  · have : q = [] := List.eq_nil_of_length_eq_zero h0
    subst this; subst e
    exact ⟨none, 0, rfl, .inl rfl⟩
  · subst e
    refine ⟨_, cap, rfl, .inr ⟨g, 0, rfl, (Array.getElem?_eq_some_iff.1 hg).1, fun j r hr => ?_⟩⟩
    have hj := (List.getElem?_eq_some_iff.1 hr).1
    have hx : xs[j]? = some (xs[j]'(by omega)) := List.getElem?_eq_getElem (by omega)
    refine ⟨xs[j]'(by omega), ?_, (h4 j _ r hx hr).srow⟩
    have := World.ownsRow.cellAt h2 j (by omega)
    rw [Nat.zero_add, this]; exact hx
theorem RowsR.lrow {F : Nat → Prop} {w : World} {v : Value} {q : List (List (List UInt8))} (h : RowsR w F v q) : LRow w v (q.map textsB) := by
  obtain ⟨xs, h1, h2, h4⟩ := h
  rcases h2.1.2 with ⟨e, h0⟩ | ⟨g, cap, cur, e, _, hg, _⟩
  · have : q = [] := List.eq_nil_of_length_eq_zero (by omega)
    subst this; subst e
    exact ⟨none, 0, rfl, .inl rfl⟩
  · subst e
    refine ⟨some ⟨g, 0, none⟩, cap, by rw [List.length_map, h1], .inr ⟨g, 0, rfl, (Array.getElem?_eq_some_iff.1 hg).1, fun j r hr => ?_⟩⟩
    obtain ⟨t, ht, rfl⟩ : ∃ t, q[j]? = some t ∧ textsB t = r := by simpa using hr
    have hj := (List.getElem?_eq_some_iff.1 ht).1
    have hx : xs[j]? = some (xs[j]'(by omega)) := List.getElem?_eq_getElem (by omega)
    refine ⟨xs[j]'(by omega), ?_, (h4 j _ t hx ht).srow⟩
    have := World.ownsRow.cellAt h2.1 j (by omega)
    rw [Nat.zero_add, this]; exact hx
theorem same_true (t : List Tx) (v1 v2 : Value) (hn : t.length ≤ 9223372036854775807) (w : World) (h1 : TRow w v1 t) (h2 : TRow w v2 t) :
    Calls Try.prog 29 #[v1, v2] w fun e w' => e = .returned (.bool true) ∧ ∃ n, w' = w.drewN n :=
  (same_any t t v1 v2 hn w h1 h2).mono fun e w' h => ⟨by rw [h.1, decide_eq_true rfl], h.2⟩
set_option maxRecDepth 100000 in
set_option maxHeartbeats 1600000 in
theorem sameQ_any (rs : List (List ByteArray)) (v1 v2 : Value) (hn : rs.length ≤ 9223372036854775807) (hl : ∀ r ∈ rs, r.length ≤ 9223372036854775807) (w : World) (h1 : LRow w v1 rs) (h2 : LRow w v2 rs) :
    Calls Try.prog 27 #[v1, v2] w fun e w' => e = .returned (.bool true) ∧ ∃ n, w' = w.drewN n := by
  obtain ⟨a1, c1, rfl⟩ := h1.shape
  obtain ⟨a2, c2, rfl⟩ := h2.shape
  have H1 := Lib.hid h1
  have H2 := Lib.hid h2
  have HL := Lib.hid hl
  clear h1 h2 hl
  go_enter Try.func27, Try.ntmps27
  go_wp2_with fail
  go_loopw [5] (fun i wr => ∃ k : Nat, k ≤ rs.length ∧ i = .int .i64 k ∧ Hid (∃ n, wr = w.drewN n)) (fun i _ => rs.length - (intOf i).toNat)
  case atStart => exact ⟨0, Nat.zero_le _, rfl, ⟨0, rfl⟩⟩
  case round =>
    obtain ⟨k, hk, rfl, hW⟩ := hrel
    have hb : Below w.heap.size w wr := by obtain ⟨n, e⟩ := hW.out; rw [e]; exact below_drewN (Below.refl _ _) n
    by_cases hlt : k < rs.length
    · obtain ⟨r, hr⟩ : ∃ r, rs[k]? = some r := ⟨rs[k], List.getElem?_eq_getElem hlt⟩
      obtain ⟨g1, o1, x1, rfl, hg1, p1, s1⟩ := H1.out.open hr
      obtain ⟨g2, o2, x2, rfl, hg2, p2, s2⟩ := H2.out.open hr
      have q1 : wr.cell? ⟨g1, o1 + k, none⟩ = some x1 := (hb.cell (p := ⟨g1, o1 + k, none⟩) hg1).trans p1
      have q2 : wr.cell? ⟨g2, o2 + k, none⟩ = some x2 := (hb.cell (p := ⟨g2, o2 + k, none⟩) hg2).trans p2
      have T1 : Hid (∀ N, TRow (wr.drewN N) x1 (texts r)) := fun N => TRow.of (s1.kept (below_drewN hb N))
      have T2 : Hid (∀ N, TRow (wr.drewN N) x2 (texts r)) := fun N => TRow.of (s2.kept (below_drewN hb N))
      have hrl := HL.out r (List.mem_of_getElem? hr)
      have hkI : (k : Int) < (rs.length : Int) := by omega
      have hk0 : (0 : Int) ≤ (k : Int) := by omega
      clear hr s1 s2 p1 p2 hb
      go_wp2_with fail
      go_quiet (first | (go_at_call 29; exact Calls.quiet_of (v := .bool true) (same_true (texts r) _ _ (by rw [texts_length]; exact hrl) _ (T1.out _) (T2.out _))))
      go_wp2
      go_roundw
      case rel => exact ⟨k + 1, by omega, by go_num, by obtain ⟨n, e⟩ := hW.out; exact ⟨n + nq, by rw [e, drewN_add]⟩⟩
      case measure => simp [intOf]; omega
    · obtain rfl : rs.length = k := by omega
      go_wp2
      go_ret
      exact ⟨rfl, hW.out⟩
end Go.Proofs.Ytflhcffpfiameaa
