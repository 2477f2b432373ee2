/- The walks of a session's methods: what is queued, told in new memory. -/
import Derived.Test.YtflhcffpfiameaaZat
namespace Go.Proofs.Ytflhcffpfiameaa
open Go.ChangeShapes Go.WideShapes Go.ChangeAt Go.RowKit
set_option linter.unusedVariables false

def textsB (l : List (List UInt8)) : List ByteArray := l.map str
theorem textsB_length (l : List (List UInt8)) : (textsB l).length = l.length := by simp [textsB]
theorem Row.srow {w : World} {F : Nat → Prop} {v : Value} {l : List (List UInt8)} (h : Row w F 9 v (l.map strV)) : SRow w v (textsB l) := by
  obtain ⟨ao, cp, rfl⟩ := h.shape
  rcases Nat.eq_zero_or_pos l.length with h0 | h0
  · have : l = [] := List.eq_nil_of_length_eq_zero h0
    subst this
    exact ⟨ao, cp, by simp [textsB], .inl rfl⟩
  · obtain ⟨g, cp', e, -, hg, -, hc⟩ := h.full (by simpa using h0)
    rw [e]
    refine ⟨_, cp', by simp [textsB], .inr ⟨g, 0, rfl, hg, fun j x hx => ?_⟩⟩
    obtain ⟨t, ht, rfl⟩ : ∃ t, l[j]? = some t ∧ str t = x := by simpa [textsB] using hx
    rw [Nat.zero_add]
    exact hc j _ (by simp [ht, strV])
theorem listsB_texts (l : List (List UInt8)) : (textsB l).map Value.string = l.map strV := by simp [textsB, strV, Function.comp_def]
set_option maxHeartbeats 400000 in
theorem clip_any (B : Nat) (bs : List ByteArray) (v : Value) (w : World) (h : ZRow B w v bs) (hlen : bs.length ≤ 8796093022208) :
    Calls Try.prog 44 #[v] w fun e w' => (∃ v', e = .returned v' ∧ ZRow B w v' bs) ∧ w = w' := by
  rcases h with ⟨rfl, rfl⟩ | ⟨g, cap, cur, rfl, h1, h2, h3, h4, h5, h6⟩
  · go_enter Try.func44, Try.ntmps44
    go_wp2
    go_ret
    exact ⟨⟨_, rfl, .inl ⟨rfl, rfl⟩⟩, rfl⟩
  · have HH := Lib.hid (And.intro h1 (And.intro h2 (And.intro h4 h6)))
    clear h1 h2 h4 h6
    go_enter Try.func44, Try.ntmps44
    go_wp2
    go_ret
    obtain ⟨a1, a2, a4, a6⟩ := HH.out
    exact ⟨⟨_, rfl, .inr ⟨g, _, cur, rfl, a1, a2, Nat.le_refl _, by omega, by unfold maxLen; omega, a6⟩⟩, rfl⟩

/-- Rows of texts, all in memory from block B on. -/
def QRow (B : Nat) (w : World) (v : Value) (q : List (List ByteArray)) : Prop :=
  ∃ xs : List Value, xs.length = q.length ∧ w.ownsRow 0 23 1 v q.length xs ∧ (∀ g, v.ownBlock = some g → B ≤ g) ∧ ∀ (i : Nat) x bs, xs[i]? = some x → q[i]? = some bs → ZRow B w x bs
namespace QRow
variable {B : Nat} {w w' : World} {v : Value} {q : List (List ByteArray)}
theorem nil (B : Nat) (w : World) : QRow B w (.slice none 0 0) [] := ⟨[], rfl, World.ownsRow_nil _ _ _ _, fun g hg => by simp [Value.ownBlock] at hg, fun i x bs h => by simp at h⟩
theorem shape (h : QRow B w v q) : ∃ ao cp, v = .slice ao q.length cp := by
  obtain ⟨xs, h1, h2, -⟩ := h
  rcases h2.2 with ⟨e, h0⟩ | ⟨g, cap, cur, e, _⟩
  · exact ⟨none, 0, by rw [e, h0]⟩
  · exact ⟨_, _, e⟩
theorem mono {C : Nat} (h : QRow B w v q) (hC : C ≤ B) : QRow C w v q := by
  obtain ⟨xs, h1, h2, h3, h4⟩ := h
  exact ⟨xs, h1, h2, fun g hg => Nat.le_trans hC (h3 g hg), fun i x bs a b => (h4 i x bs a b).mono hC⟩
theorem later (h : QRow B w v q) (hb : Below w.heap.size w w') : QRow B w' v q := by
  obtain ⟨xs, h1, h2, h3, h4⟩ := h
  exact ⟨xs, h1, ownsRow_below h2 hb, h3, fun i x bs a b => (h4 i x bs a b).later hb⟩
theorem lt (h : QRow B w v q) : ∀ g, v.ownBlock = some g → B ≤ g ∧ g < w.heap.size := by
  obtain ⟨xs, h1, h2, h3, h4⟩ := h
  exact fun g hg => ⟨h3 g hg, (h2.lt g hg).2⟩
/-- One more. -/
theorem push {v' x : Value} {bs : List ByteArray} (h : QRow B w v q) (hx : ZRow B w x bs) {xs : List Value} (hxs : xs.length = q.length) (ho : w.ownsRow 0 23 1 v q.length xs)
    (hel : ∀ (i : Nat) x bs, xs[i]? = some x → q[i]? = some bs → ZRow B w x bs) (hown : w'.ownsRow 0 23 1 v' (q.length + 1) (xs ++ [x])) (hk : ∀ b, b < w.heap.size → some b ≠ v.ownBlock → w'.heap[b]? = w.heap[b]?) (hB : ∀ g, v'.ownBlock = some g → B ≤ g) : QRow B w' v' (q ++ [bs]) := by
  have typed : ∀ (k : Nat) (cur : Array Value), B ≤ k → w.heap[k]? = some (.cells cur 9 (0, 0)) → w'.heap[k]? = w.heap[k]? := fun k cur _ hk2 => hk k (Array.getElem?_eq_some_iff.1 hk2).1 fun e => by
    obtain ⟨c2, hc⟩ := row_block ho e.symm
    rw [hk2] at hc; simp at hc
  refine ⟨xs ++ [x], by simp [hxs], by rw [List.length_append]; exact hown, hB, fun i y r hy hr => ?_⟩
  rcases Nat.lt_or_ge i q.length with hi | hi
  · rw [List.getElem?_append_left (by omega)] at hy
    rw [List.getElem?_append_left hi] at hr
    exact (hel i y r hy hr).kept_by typed
  · have hi2 : i = q.length := by
      have := (List.getElem?_eq_some_iff.1 hr).1
      simp at this; omega
    subst hi2
    have hy2 : y = x := by rw [← hxs] at hy; simpa using hy.symm
    have hr2 : r = bs := by simpa using hr.symm
    subst hy2; subst hr2
    exact hx.kept_by typed
/-- Its cells. -/
theorem at_ (h : QRow B w v q) {j : Nat} (hj : j < q.length) : ∃ g cp x, v = .slice (some ⟨g, 0, none⟩) q.length cp ∧ B ≤ g ∧ g < w.heap.size ∧ w.cell? ⟨g, j, none⟩ = some x ∧ ZRow B w x q[j] := by
  obtain ⟨xs, h1, h2, h3, h4⟩ := h
  have hx : xs[j]? = some xs[j] := List.getElem?_eq_getElem (by omega)
  rcases h2.2 with ⟨e, h0⟩ | ⟨g, cap, cur, e, _, hg, _⟩
  · omega
  · subst e
    refine ⟨g, cap, xs[j], rfl, h3 g rfl, (Array.getElem?_eq_some_iff.1 hg).1, ?_, h4 j _ _ hx (List.getElem?_eq_getElem hj)⟩
    have := World.ownsRow.cellAt h2 j (by omega)
    rw [this]; exact hx
end QRow
theorem infoRow' : (Try.prog.info? 23).map (fun i => (i.zero, i.size, i.bytes)) = some (some (.slice none 0 0), 1, 24) := infoRow
section
variable {rest : List Oper} {ops : Array Oper} {o : Oper} {a : Act} {Q : Exit → Act → World → Prop}
/-- 'v = append(v, x)' of a row of texts. -/
theorem wpList_append_q (w : World) (hgd : o.guard = none) (s x : Operand) (ho : o.op = .call { callee := .builtin .append, args := #[s, x], argTypes := #[22, 22] })
    (B : Nat) (v : Value) (q : List (List ByteArray)) (hs : a.eval s = v) (hrow : QRow B w v q) (u : Value) (bs : List ByteArray) (h1 : u.oneCell' = true) (hu : ZRow B w u bs)
    (hx : a.eval x = .slice (some ⟨w.heap.size, 0, none⟩) 1 1) (hlen : q.length ≤ 1073741824) (hbase : B ≤ w.heap.size)
    (h : ∀ v' w', QRow B w' v' (q ++ [bs]) → (∀ (W : World) (C : Nat), Below C W w → C ≤ B → Below C W w') → w.heap.size ≤ w'.heap.size → (∀ b, b < w.heap.size → some b ≠ v.ownBlock → w'.heap[b]? = w.heap[b]?) → (∀ g, v'.ownBlock = some g → v.ownBlock = some g ∨ w.heap.size ≤ g) → wpList Try.prog ops Q rest (a.put o.dst v') w') :
    wpList Try.prog ops Q (o :: rest) a (w.alloc (.cells #[u] 23)) := by
  obtain ⟨i, hi, hz, hsz, hby⟩ := info_parts infoRow
  refine wpList_plain hgd fun K hK => ?_
  obtain ⟨xs, hxs, ho2, hF, hel⟩ := hrow
  obtain ⟨v', w', hr, h2, h3, h4, h5⟩ := run_append_own_at (P := Try.prog) (w.alloc (.cells #[u] 23)) 0 22 o.type 23 i _ 1 24 Try.underlying22 hi hz hsz hby rfl (by omega) v _ _ (World.ownsRow.alloc ho2 _) ⟨w.heap.size, 0, none⟩ 1 1 [u] rfl
    (fun j y hj => by
      rcases j with _ | j
      · simp at hj; subst hj
        have : (⟨w.heap.size, 0, none⟩ : Addr).add 0 = ⟨w.heap.size, 0, none⟩ := by unfold Addr.add; split <;> simp_all
        rw [this]
        have hh := heap_alloc_new w (.cells #[u] 23)
        unfold World.cell?
        rw [hh]; rfl
      · simp at hj) (by simp [h1]) (by unfold maxLen; omega) (by omega) (by omega)
  have hg2 : w.grownBy w' v.ownBlock := World.grownBy.trans (World.grownBy_alloc w _ _) h3
  have hnew : ∀ g, v'.ownBlock = some g → v.ownBlock = some g ∨ w.heap.size ≤ g := fun g hg => by
    rcases h5 with e | e
    · rw [e] at hg; exact .inl hg
    · rw [e] at hg; cases hg; exact .inr (by simp)
  have hrow' : QRow B w' v' (q ++ [bs]) := QRow.push (w := w) ⟨xs, hxs, ho2, hF, hel⟩ hu hxs ho2 hel h2 hg2.block fun g hg => by
    rcases hnew g hg with e | e
    · exact hF g e
    · omega
  unfold Oper.wp execOp
  simp only [ho, resolve, invoke, builtin, Sem.run_bind, Sem.run_pure, Result.andThen_ok, List.map_toArray, List.map_cons, List.map_nil, hs, hx, hr]
  refine hK _ _ (h v' w' hrow' (fun W C hb hC => hb.grown hg2 ?_ fun k hk => ?_) hg2.size hg2.block hnew)
  · omega
  · have := hF k hk; omega
end
def QueuedEnd (S : SessM) (w : World) (e : Ending) (w' : World) : Prop := ∃ v, e = .returned v ∧ QRow w.heap.size w' v (S.queue.map textsB) ∧ Below w.heap.size w w'
set_option maxHeartbeats 1600000 in
set_option maxRecDepth 100000 in
theorem queued_any {w : World} {b : Nat} {F : Nat → Prop} {S : SessM} (h : Sess w b F S) (hq : ∀ r ∈ S.queue, r.length ≤ 8796093022208) :
    Calls Try.prog 20 #[.pointer (some ⟨b, 0, none⟩)] w (QueuedEnd S w) := by
  obtain ⟨qv, bm, D, h⟩ := h
  have hlt := h.lt b h.own
  have hr := h.rows
  have hp := h.room
  have hp2 := h.places
  obtain ⟨ao, cp, rfl⟩ := h.shape
  obtain ⟨c0, c1, c2, c3, c4, c5⟩ := h.cells
  have HR := Lib.hid hr
  have HQ := Lib.hid hq
  clear h hr hq c0 c1 c2 c3 c5
  go_enter Try.func20, Try.ntmps20
  go_wp2_with fail
  go_loopw [13, 3] (fun i o wr => ∃ (k : Nat), k ≤ S.queue.length ∧ i = .int .i64 k ∧ Hid (QRow w.heap.size wr o ((S.queue.take k).map textsB)) ∧ Hid (Below w.heap.size w wr)) (fun i _ _ => S.queue.length - (intOf i).toNat)
  case atStart => exact ⟨0, Nat.zero_le _, rfl, QRow.nil _ _, Below.refl _ _⟩
  case round =>
    obtain ⟨k, hk, rfl, hrow, hb⟩ := hrel
    by_cases hlt2 : k < S.queue.length
    · obtain ⟨r, hr⟩ : ∃ r, S.queue[k]? = some r := ⟨S.queue[k], List.getElem?_eq_getElem hlt2⟩
      obtain ⟨xs, hxl, hrw, hcs⟩ := HR.out
      obtain ⟨g, cp', e, -, hg, -, hc⟩ := hrw.full (by omega)
      obtain ⟨rfl, rfl⟩ : ao = some ⟨g, 0, none⟩ ∧ cp = cp' := by simp only [Value.slice.injEq] at e; exact ⟨e.1, e.2.2⟩
      have hx : xs[k]? = some xs[k] := List.getElem?_eq_getElem (by omega)
      have hcx := hcs k _ r hx hr
      have hc1 : wr.cell? ⟨g, k, none⟩ = some xs[k] := (hb.out.cell (by exact hg)).trans (hc k _ hx)
      have HSx := Lib.hid (hcx.srow.kept hb.out)
      have hrl := HQ.out r (List.mem_of_getElem? hr)
      obtain ⟨u, hu⟩ : ∃ u, xs[k] = u := ⟨_, rfl⟩
      rw [hu] at hc1 HSx
      have HT := Lib.hid (show ((S.queue.take k).map textsB) ++ [textsB r] = (S.queue.take (k + 1)).map textsB by rw [take_one hr]; simp)
      have hlen : ((S.queue.take k).map textsB).length ≤ 1073741824 := by simp; omega
      have hz := hb.out.size
      clear hr hrw hcs hc e hx hcx hu
      go_wp2_with fail
      refine (clone_any (textsB r) u _ HSx.out (by rw [textsB_length]; omega)).mono ?_
      rintro e w1 ⟨v1, rfl, row1, -, b1⟩
      have Z1 := Lib.hid (ZRow.of_owns (B := wr.heap.size) row1.1 (by simp) row1.2)
      have B1 := Lib.hid b1
      clear row1 b1
      go_wp2_with fail
      refine (clip_any _ _ _ _ Z1.out (by rw [textsB_length]; omega)).mono ?_
      rintro e w2 ⟨⟨v2, rfl, z2⟩, rfl⟩
      obtain ⟨a2, c2, rfl⟩ := z2.shape
      have Z2 := Lib.hid (z2.mono hz)
      have Q2 := Lib.hid (hrow.out.later B1.out)
      have hz1 := B1.out.size
      clear z2
      go_wp2_with (at_builtin; refine wpList_append_q w1 rfl (.tmp 17) (.tmp 21) rfl w.heap.size u3 _ rfl Q2.out _ _ rfl Z2.out (by simp [Act.eval]) hlen (by omega) ?_)
      intro v5 w5 h5 b5 s5 k5 _
      have R5 := Lib.hid h5
      have B5 := Lib.hid (b5 w _ (hb.out.trans (B1.out.mono hz)) (Nat.le_refl _))
      clear h5 b5 k5
      go_wp2
      go_roundw
      case rel => exact ⟨k + 1, by omega, by go_num, by have := R5.out; rw [← List.map_take, HT.out] at this; exact this, B5.out⟩
      case measure => simp [intOf]; omega
    · obtain rfl : k = S.queue.length := by omega
      rw [List.take_length] at hrow
      obtain ⟨av, cv, hv⟩ := hrow.out.shape
      subst hv
      go_wp2
      go_ret
      exact ⟨_, rfl, hrow.out, hb.out⟩
end Go.Proofs.Ytflhcffpfiameaa
