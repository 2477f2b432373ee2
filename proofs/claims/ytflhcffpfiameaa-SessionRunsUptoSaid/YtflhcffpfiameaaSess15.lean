/- The document's QUEUE. -/
import Derived.Test.YtflhcffpfiameaaSess14
namespace Go.Proofs.Ytflhcffpfiameaa
open Go.ChangeShapes Go.WideShapes Go.ChangeAt Go.RowKit Go.Maps
set_option linter.unusedVariables false

section
variable {P : Program} {o : Oper} {a : Act} {Q : Exit → Act → World → Prop} {K : Act → World → Prop}
theorem step_append_row {w0 w : World} {ops : Array Oper} {E : Prop} (hgd : o.guard = none) (s x : Operand) (ho : o.op = .call { callee := .builtin .append, args := #[s, x], argTypes := #[23, 23] })
    (xs ts : List Tx) (v u : Value) (hs : a.eval s = v) (hx : a.eval x = u) (hM : Made w0 w v xs) (hu : TRow w u ts) (hb : Below w0.heap.size w0 w) (hn : xs.length + ts.length ≤ 8796093022200)
    (h : ∀ v' w', Made w0 w' v' (xs ++ ts) → Below w0.heap.size w0 w' → (v.ownBlock = none → Below w.heap.size w w') → K (a.put o.dst v') w') :
    if Region.wanted o (yielded ops a.tmps) = true then Oper.wp Try.prog o a w K Q else E := by
  have hw : Region.wanted o (yielded ops a.tmps) = true := by simp [Region.wanted, hgd]
  rw [if_pos hw]
  exact wp_append_row s x ho xs ts v u hs hx hM hu hb hn h
end
theorem RSessAt.apart {w : World} {b : Nat} {F : Nat → Prop} {S : SessM} {qv wv : Value} (h : RSessAt w b F S qv wv) : qv.ownBlock ≠ some b := by
  obtain ⟨xs, _, hr, _⟩ := h.rows
  intro e
  rcases hr.1.2 with ⟨h1, _⟩ | ⟨g, cap, cur, rfl, _, hg, _⟩
  · rw [h1] at e; simp [Value.ownBlock] at e
  · simp [Value.ownBlock] at e
    subst e
    rw [h.block] at hg
    simp at hg
theorem RSessAt.pushed {wq wx w5 : World} {b : Nat} {F : Nat → Prop} {S : SessM} {qv wv : Value} (h : RSessAt wq b F S qv wv) {bs : List ByteArray} {x : Value} {gg cap : Nat} {xs : List Value}
    (hxl : xs.length = S.queue.length) (hrw : Row wq F 23 qv xs) (hcs : ∀ (i : Nat) x r, xs[i]? = some x → S.queue[i]? = some r → Row wq F 9 x (r.map strV)) (hf : S.queue.length < S.places)
    (bx : Below wq.heap.size wq wx) (hrow : Row wx (fun k => wq.heap.size ≤ k) 9 x (bs.map Value.string))
    (hown : w5.ownsRow 0 23 1 (.slice (some ⟨gg, 0, none⟩) (S.queue.length + 1) cap) (S.queue.length + 1) (xs ++ [x])) {o : Obj} (hgrow : (wx.alloc o).grownBy w5 qv.ownBlock) (hat : qv.ownBlock = some gg ∨ wq.heap.size ≤ gg) (hlt : gg < w5.heap.size) :
    RSessAt (w5.setCell ⟨b, 2, none⟩ (.slice (some ⟨gg, 0, none⟩) (S.queue.length + 1) cap)) b (fun k => F k ∨ (wq.heap.size ≤ k ∧ k < w5.heap.size)) { S with queue := S.queue ++ [listsB bs] } (.slice (some ⟨gg, 0, none⟩) (S.queue.length + 1) cap) wv ∧
    Wr F wq (w5.setCell ⟨b, 2, none⟩ (.slice (some ⟨gg, 0, none⟩) (S.queue.length + 1) cap)) := by
  have hx2 := h.below bx
  have hap := h.apart
  have hrwx : wx.ownsRow 0 23 1 qv xs.length xs := ownsRow_below hrw.1 bx
  have hsz : wx.heap.size + 1 ≤ w5.heap.size := by have := hgrow.size; simpa using this
  have keep : ∀ k, k < wx.heap.size → qv.ownBlock ≠ some k → w5.heap[k]? = wx.heap[k]? := fun k hk hne => (hgrow.block k (by simp; omega) (Ne.symm hne)).trans (Below.heap_alloc _ _ _ hk)
  have lt_of : ∀ {k : Nat} {ob : Obj}, wx.heap[k]? = some ob → k < wx.heap.size := fun hk => (Array.getElem?_eq_some_iff.1 hk).1
  have b5 : w5.heap[b]? = _ := (keep b (hx2.lt b h.own) hap).trans hx2.block
  have ggb : gg ≠ b := by
    rintro rfl
    obtain ⟨cur, hc⟩ := row_block hown (g := gg) rfl
    rw [b5] at hc; simp at hc
  have notq : ∀ {k : Nat} {cur : Array Value}, wx.heap[k]? = some (.cells cur 9 (0, 0)) → qv.ownBlock ≠ some k := by
    intro k cur hk e
    obtain ⟨c2, hc⟩ := row_block hrwx e
    rw [hk] at hc; simp at hc
  have notb : ∀ {k : Nat} {cur : Array Value}, wx.heap[k]? = some (.cells cur 9 (0, 0)) → k ≠ b := by
    rintro k cur hk rfl
    rw [hx2.block] at hk; simp at hk
  have typed : ∀ (k : Nat) (cur : Array Value), wx.heap[k]? = some (.cells cur 9 (0, 0)) → (w5.setCell ⟨b, 2, none⟩ (.slice (some ⟨gg, 0, none⟩) (S.queue.length + 1) cap)).heap[k]? = wx.heap[k]? := fun k cur hk =>
    (Below.heap_setCell _ _ _ _ (notb hk)).trans (keep k (lt_of hk) (notq hk))
  have hwr : Wr F wq (w5.setCell ⟨b, 2, none⟩ (.slice (some ⟨gg, 0, none⟩) (S.queue.length + 1) cap)) := by
    refine Wr.setCell ?_ h.own _
    exact ((Wr.of_below bx).alloc o).grown hgrow fun k hk => .inl (hrw.2 k hk)
  refine ⟨?_, hwr⟩
  exact {
    lt := fun k hk => by
      rw [heap_setCell_size]
      rcases hk with hk | hk
      · have := hx2.lt k hk; omega
      · exact hk.2
    own := .inl h.own
    block := heap_setCell_same b5
    told := ((h.told.kept (G := fun _ => False) (Wr.of_below bx) (fun _ _ h => h)).kept_by typed).mono fun k hk => .inl hk
    rows := by
      refine ⟨xs ++ [x], by simp [hxl], ⟨?_, ?_⟩, ?_⟩
      · rw [show (xs ++ [x]).length = S.queue.length + 1 by simp [hxl]]
        refine ⟨hown.1, hown.2.imp id ?_⟩
        rintro ⟨g', cap', cur, e, h0, hg, r⟩
        refine ⟨g', cap', cur, e, h0, ?_, r⟩
        have : g' = gg := by simp at e; exact e.1.symm
        rw [Below.heap_setCell _ _ _ _ (by rw [this]; exact ggb)]
        exact hg
      · intro g hg
        simp [Value.ownBlock] at hg
        subst hg
        rcases hat with hat | hat
        · exact .inl (hrw.2 _ hat)
        · exact .inr ⟨hat, hlt⟩
      · intro i y r hy hr
        by_cases hi : i < S.queue.length
        · rw [List.getElem?_append_left (by omega)] at hy
          rw [List.getElem?_append_left hi] at hr
          have h1 := (hcs i y r hy hr).kept (G := fun _ => False) (Wr.of_below bx) (fun _ _ h => h)
          exact (h1.kept_by typed).mono fun k hk => .inl hk
        · have hi2 : i = S.queue.length := by
            have := (List.getElem?_eq_some_iff.1 hr).1
            simp at this; omega
          subst hi2
          have hy2 : y = x := by rw [← hxl] at hy; simpa using hy.symm
          have hr2 : r = listsB bs := by simpa using hr.symm
          subst hy2; subst hr2
          rw [listsB_strV]
          refine ⟨(hrow.kept_by typed).1, fun k hk => .inr ⟨hrow.2 k hk, ?_⟩⟩
          have := hrow.lt hk
          omega }
structure RReached (w wq : World) (b : Nat) (F : Nat → Prop) (S : SessM) (qv wv : Value) : Prop where
  at_ : RSessAt wq b F S qv wv
  bel : Below (boxed w).heap.size (boxed w) wq
theorem RReached.below {w wq : World} {b : Nat} {F : Nat → Prop} {S : SessM} {qv wv : Value} (h : RReached w wq b F S qv wv) : Below w.heap.size w wq := (boxed_below w).trans (h.bel.mono (by rw [boxed_size]; omega))
set_option maxRecDepth 100000 in
set_option maxHeartbeats 3200000 in
theorem rqueue_any {w : World} {b : Nat} {F : Nat → Prop} {S : SessM} (h : RSess w b F S) (hp : S.places ≤ 1024) (hroom : S.queue.length ≤ S.places) (v : Value) (bs : List ByteArray) (hs : SRow w v bs) (hlen : bs.length ≤ 1048576) :
    Calls Try.prog 36 #[.pointer (some ⟨b, 0, none⟩), v] w fun e w' => e = .returned S.pushR ∧ ∃ F', RSess w' b F' (S.push bs) ∧ Grew w F F' ∧ Wr F w w' := by
  obtain ⟨qv, wv, h⟩ := h
  have hlt := h.lt b h.own
  have hn : ¬ F w.heap.size := fun hk => Nat.lt_irrefl _ (h.lt _ hk)
  obtain ⟨ao, cp, rfl⟩ := h.rows.shape
  have ha := h.alloc (.cells #[.int .i64 0, .string ⟨#[]⟩, .int .i64 0, .slice none 0 0] 31)
  obtain ⟨c0, c1, c2, c3, c4, c5⟩ := ha.cells
  have H := Lib.hid h
  rcases hm : S.multi with _ | _
  · rw [show S.pushR = replyV 2 ⟨#[69, 82, 82, 32, 69, 88, 69, 67, 32, 119, 105, 116, 104, 111, 117, 116, 32, 77, 85, 76, 84, 73]⟩ by unfold SessM.pushR; rw [if_pos hm], show S.push bs = S by unfold SessM.push; rw [if_pos hm]]
    rw [hm] at c1
    clear ha h c0 c2 c3 c4 c5
    go_enter Try.func36, Try.ntmps36
    go_wp2_with fail
    ((with_reducible refine (rfail_any _ _).mono ?_); rintro e w1 ⟨rfl, b1⟩)
    have HBX := Lib.hid (boxed_at b1)
    obtain ⟨k0, k1, k2, k3, z0⟩ := box_cells HBX.out
    go_wp2
    refine bodyPost_ret (reply_end rfl _ w.heap.size rfl Try.underlying31 (by kernel_rfl) HBX.out rfl _ _ _ _) rfl ⟨rfl, ?_⟩
    exact ⟨F, RSessAt.sess (((H.out.alloc _).below b1).reply hn _ _ _ _), Grew.refl _ _, (((Wr.refl F w).alloc _).trans (Wr.of_below b1) (Grew.refl _ _)).reply (Nat.le_refl _) _ _ _ _⟩
  rw [hm] at c1
  have hbw : b ≠ w.heap.size := by omega
  by_cases hfull : S.queue.length = S.places
  · rw [show S.pushR = replyV 2 ⟨#[69, 82, 82, 32, 116, 111, 111, 32, 109, 97, 110, 121, 32, 113, 117, 101, 117, 101, 100, 32, 99, 111, 109, 109, 97, 110, 100, 115]⟩ by unfold SessM.pushR; rw [if_neg (by simp [hm]), if_pos hfull], show S.push bs = { S with refused := true } by unfold SessM.push; rw [if_neg (by simp [hm]), if_pos hfull]]
    have hge : decide ((S.places : Int) ≤ (S.queue.length : Int)) = true := by rw [decide_eq_true_iff]; omega
    have hgeI : (S.places : Int) ≤ (S.queue.length : Int) := by omega
    clear ha h c3 c4 c5 hfull
    go_enter Try.func36, Try.ntmps36
    go_wp2_with fail
    go_quiet (fail)
    have R : Hid (RReached w ((w.alloc (.cells #[.int .i64 0, .string ⟨#[]⟩, .int .i64 0, .slice none 0 0] 31)).drewN nq) b F S (.slice ao S.queue.length cp) wv) := ⟨(H.out.alloc _).below (below_drewN (Below.refl _ _) nq), below_drewN (Below.refl _ _) nq⟩
    generalize (w.alloc (.cells #[.int .i64 0, .string ⟨#[]⟩, .int .i64 0, .slice none 0 0] 31)).drewN nq = wq at *
    clear c0 c1 c2
    obtain ⟨c0, c1, c2, c3, c4, c5⟩ := R.out.at_.cells
    have f3 := R.out.at_.free 3
    have hblt : b < wq.heap.size := R.out.at_.lt b R.out.at_.own
    have hwlt : w.heap.size < wq.heap.size := by have := R.out.bel.size; rw [boxed_size] at this; omega
    have HB0 := Lib.hid (boxed_at R.out.bel)
    go_wp2_with fail
    ((with_reducible refine (rfail_any _ _).mono ?_); rintro e w3 ⟨rfl, b3⟩)
    have hbx : w3.heap[w.heap.size]? = some (.cells #[.int .i64 0, .string ⟨#[]⟩, .int .i64 0, .slice none 0 0] 31 (0, 0)) := by
      rw [b3.block _ (by rw [heap_setCell_size]; exact hwlt), Below.heap_setCell _ _ _ _ hbw.symm]
      exact HB0.out
    have HBX := Lib.hid hbx
    obtain ⟨k0, k1, k2, k3, z0⟩ := box_cells hbx
    clear hbx
    go_wp2
    refine bodyPost_ret (reply_end rfl _ w.heap.size rfl Try.underlying31 (by kernel_rfl) HBX.out rfl _ _ _ _) rfl ⟨rfl, ?_⟩
    exact ⟨F, RSessAt.sess (((R.out.at_.setR true).below b3).reply hn _ _ _ _), Grew.refl _ _, (((Wr.of_below R.out.below).setCell (p := ⟨b, 3, none⟩) H.out.own _).trans (Wr.of_below b3) (Grew.refl _ _)).reply (Nat.le_refl _) _ _ _ _⟩
  · rw [show S.pushR = replyV 1 ⟨#[81, 85, 69, 85, 69, 68]⟩ by unfold SessM.pushR; rw [if_neg (by simp [hm]), if_neg hfull], show S.push bs = { S with queue := S.queue ++ [listsB bs] } by unfold SessM.push; rw [if_neg (by simp [hm]), if_neg hfull]]
    have hge : decide ((S.places : Int) ≤ (S.queue.length : Int)) = false := by rw [decide_eq_false_iff_not]; omega
    have hgeI : ¬ (S.places : Int) ≤ (S.queue.length : Int) := by omega
    have hf : S.queue.length < S.places := by omega
    obtain ⟨va, vc, rfl⟩ : ∃ ao cp, v = .slice ao bs.length cp := by obtain ⟨a, c, e, _⟩ := hs; exact ⟨a, c, e⟩
    clear ha h c3 c4 c5
    obtain ⟨i0, hi, hz0, hz1, hz2⟩ := info_parts infoRow
    go_enter Try.func36, Try.ntmps36
    go_wp2_with fail
    go_quiet (fail)
    have R : Hid (RReached w ((w.alloc (.cells #[.int .i64 0, .string ⟨#[]⟩, .int .i64 0, .slice none 0 0] 31)).drewN nq) b F S (.slice ao S.queue.length cp) wv) := ⟨(H.out.alloc _).below (below_drewN (Below.refl _ _) nq), below_drewN (Below.refl _ _) nq⟩
    generalize (w.alloc (.cells #[.int .i64 0, .string ⟨#[]⟩, .int .i64 0, .slice none 0 0] 31)).drewN nq = wq at *
    clear c0 c1 c2
    obtain ⟨c0, c1, c2, c3, c4, c5⟩ := R.out.at_.cells
    have f2 := R.out.at_.free 2
    have hblt : b < wq.heap.size := R.out.at_.lt b R.out.at_.own
    have hwlt : w.heap.size < wq.heap.size := by have := R.out.bel.size; rw [boxed_size] at this; omega
    have HB0 := Lib.hid (boxed_at R.out.bel)
    have HS := Lib.hid (show TRow wq.drew (.slice va bs.length vc) (texts bs) from TRow.of (hs.kept (R.out.below.drew)))
    clear hs c0 c1 c3 c4 c5
    go_wp2_with fail
    obtain ⟨xs, hxl, hrw, hcs⟩ := R.out.at_.rows
    have hq := hrw.1
    rw [hxl] at hq
    have hap := R.out.at_.apart
    have h63 : S.queue.length + 1 ≤ maxLen := by unfold maxLen; omega
    have hby : (S.queue.length + 1) * 24 ≤ 140737488355328 := by omega
    have Hx := Lib.hid hxl
    clear hxl
    refine wp_region_held_drew (S := (fun W => W.frozen? ⟨b, 2, none⟩ = false)) (by kernel_rfl) ?_ (fun hHeld => ?_)
    · first | exact f2 | exact fx | exact zx _ | exact fy | (simp only [World.frozen?_setCell]; exact fy) | exact (((R.out.at_.pushed Hx.out hrw hcs hf ⟨bx.os, bx.tape, bx.output, bx.size, bx.block⟩ (show Row wx (fun k => wq.heap.size ≤ k) 9 (.slice ca bs.length cc) (bs.map Value.string) from hrow) hown5 hgrow (hat.imp id (fun e => by rw [e]; have := bx.size; simp [World.drew] at *; omega)) hlt5).1).free 2)
    refine wpAnyH_take (i := 0) (oi := (Go.Oper.mk (some 25) (Go.Op.move (Go.Operand.tmp 0)) 39 _ #[] none)) (v := ?_) rfl (by kernel_rfl) (by kernel_rfl) (by kernel_rfl) (fun _ _ _ h => h) (Or.inl ⟨by rfl, ?_⟩) hHeld ?_
    rotate_left
    · intro w hSw; (try dsimp only at hSw); go_simp; (try with_reducible rfl)
    simp only [Act.put, List.setIfInBounds_toArray, List.set_cons_zero, List.set_cons_succ]
    refine wpAnyH_take (i := 1) (oi := (Go.Oper.mk (some 26) (Go.Op.move (Go.Operand.tmp 0)) 39 _ #[] none)) (v := ?_) rfl (by kernel_rfl) (by kernel_rfl) (by kernel_rfl) (fun _ _ _ h => h) (Or.inl ⟨by rfl, ?_⟩) hHeld ?_
    rotate_left
    · intro w hSw; (try dsimp only at hSw); go_simp; (try with_reducible rfl)
    simp only [Act.put, List.setIfInBounds_toArray, List.set_cons_zero, List.set_cons_succ]
    refine wpAnyH_take (i := 2) (oi := (Go.Oper.mk (some 27) (Go.Op.nilCheck (Go.Operand.tmp 26)) 0 _ #[Go.Edge.mk 1 Go.Ground.data] none)) (v := ?_) rfl (by kernel_rfl) (by kernel_rfl) (by kernel_rfl) (fun _ _ _ h => h) (Or.inl ⟨by rfl, ?_⟩) hHeld ?_
    rotate_left
    · intro w hSw; (try dsimp only at hSw); go_simp; (try with_reducible rfl)
    simp only [Act.put, List.setIfInBounds_toArray, List.set_cons_zero, List.set_cons_succ]
    refine wpAnyH_take (i := 3) (oi := (Go.Oper.mk (some 28) (Go.Op.fieldAddr 64 (Go.Operand.tmp 27) 2) 0 _ #[Go.Edge.mk 2 Go.Ground.data] none)) (v := ?_) rfl (by kernel_rfl) (by kernel_rfl) (by kernel_rfl) (fun _ _ _ h => h) (Or.inl ⟨by rfl, ?_⟩) hHeld ?_
    rotate_left
    · intro w hSw; (try dsimp only at hSw); go_simp; (try with_reducible rfl)
    simp only [Act.put, List.setIfInBounds_toArray, List.set_cons_zero, List.set_cons_succ]
    refine wpAnyH_take (i := 5) (oi := (Go.Oper.mk (some 30) (Go.Op.move (Go.Operand.tmp 1)) 23 _ #[] none)) (v := ?_) rfl (by kernel_rfl) (by kernel_rfl) (by kernel_rfl) (fun _ _ _ h => h) (Or.inl ⟨by rfl, ?_⟩) hHeld ?_
    rotate_left
    · intro w hSw; (try dsimp only at hSw); go_simp; (try with_reducible rfl)
    simp only [Act.put, List.setIfInBounds_toArray, List.set_cons_zero, List.set_cons_succ]
    refine wpAnyH_ready (rs := [4, 6]) (by kernel_rfl) (by simp) ?_
    refine (AllReadyH.cons (o := (Go.Oper.mk (some 29) (Go.Op.load 22 (Go.Operand.tmp 28)) 22 _ #[Go.Edge.mk 3 Go.Ground.data] none)) rfl (fun K hK => ?_) (AllReadyH.cons (o := (Go.Oper.mk (some 31) (Go.Op.call (Go.Call.mk (Go.Callee.builtin Go.Builtin.append) #[Go.Operand.const (Go.Value.slice none 0 0), Go.Operand.tmp 30] #[23, 23])) 23 _ #[Go.Edge.mk 5 Go.Ground.data] none)) rfl (fun K hK => ?_) AllReadyH.nil))
    · skip
      go_simp
      refine hK.out _ _ ?_ (fun hHeld => ?_)
      · first | exact f2 | exact fx | exact zx _ | exact fy | (simp only [World.frozen?_setCell]; exact fy) | exact (((R.out.at_.pushed Hx.out hrw hcs hf ⟨bx.os, bx.tape, bx.output, bx.size, bx.block⟩ (show Row wx (fun k => wq.heap.size ≤ k) 9 (.slice ca bs.length cc) (bs.map Value.string) from hrow) hown5 hgrow (hat.imp id (fun e => by rw [e]; have := bx.size; simp [World.drew] at *; omega)) hlt5).1).free 2)
      clear hK K
      (try simp only [Act.put, List.setIfInBounds_toArray, List.set_cons_zero, List.set_cons_succ])
      refine wpAnyH_ready (rs := [6]) (by kernel_rfl) (by simp) ?_
      refine (AllReadyH.cons (o := (Go.Oper.mk (some 31) (Go.Op.call (Go.Call.mk (Go.Callee.builtin Go.Builtin.append) #[Go.Operand.const (Go.Value.slice none 0 0), Go.Operand.tmp 30] #[23, 23])) 23 _ #[Go.Edge.mk 5 Go.Ground.data] none)) rfl (fun K hK => ?_) AllReadyH.nil)
      · skip
        (rw [if_pos (by rfl)]; refine wp_append_row (w0 := wq.drew) _ _ rfl [] (texts bs) _ _ rfl rfl (Made.nil _ _) HS.out (Below.refl _ _) (by simp [texts_length]; omega) ?_; intro v6 wx m6 bx b6'; clear b6'; rw [List.nil_append] at m6; obtain ⟨ca, cc, hv6⟩ := m6.shape; rw [texts_length] at hv6; subst hv6; have hrow : Row wx (fun k => wq.drew.heap.size ≤ k) 9 (.slice ca bs.length cc) (bs.map Value.string) := (by have := m6; unfold Made at this; rw [show (texts bs).map strV = bs.map Value.string by simp [texts, strV, str_of, Function.comp_def]] at this; exact this); have ox := ownsRow_below (w := wq.drew) hq bx; have hxb : b < wx.heap.size := Nat.lt_of_lt_of_le hblt bx.size; have cx : wx.cell? ⟨b, 2, none⟩ = some (.slice ao S.queue.length cp) := (bx.cell (p := ⟨b, 2, none⟩) hblt).trans c2; have fx : wx.frozen? ⟨b, 2, none⟩ = false := (bx.frozen (p := ⟨b, 2, none⟩) hblt).trans f2; have ax : ∀ o, (wx.alloc o).cell? ⟨b, 2, none⟩ = some (.slice ao S.queue.length cp) := (fun o => (((Below.refl _ _).alloc (Nat.le_refl _) o).cell (p := ⟨b, 2, none⟩) hxb).trans cx); have zx : ∀ o, (wx.alloc o).frozen? ⟨b, 2, none⟩ = false := (fun o => (((Below.refl _ _).alloc (Nat.le_refl _) o).frozen (p := ⟨b, 2, none⟩) hxb).trans fx); clear m6)
        refine hK.out _ _ ?_ (fun hHeld => ?_)
        · first | exact f2 | exact fx | exact zx _ | exact fy | (simp only [World.frozen?_setCell]; exact fy) | exact (((R.out.at_.pushed Hx.out hrw hcs hf ⟨bx.os, bx.tape, bx.output, bx.size, bx.block⟩ (show Row wx (fun k => wq.heap.size ≤ k) 9 (.slice ca bs.length cc) (bs.map Value.string) from hrow) hown5 hgrow (hat.imp id (fun e => by rw [e]; have := bx.size; simp [World.drew] at *; omega)) hlt5).1).free 2)
        clear hK K
        (try simp only [Act.put, List.setIfInBounds_toArray, List.set_cons_zero, List.set_cons_succ])
        refine wpAnyH_ready (rs := [7]) (by kernel_rfl) (by simp) ?_
        refine (AllReadyH.cons (o := (Go.Oper.mk (some 32) (Go.Op.buildSlice 22 1 #[(0, Go.Operand.tmp 31)]) 22 _ #[Go.Edge.mk 6 Go.Ground.data] none)) rfl (fun K hK => ?_) AllReadyH.nil)
        · skip
          go_simp
          refine hK.out _ _ ?_ (fun hHeld => ?_)
          · first | exact f2 | exact fx | exact zx _ | exact fy | (simp only [World.frozen?_setCell]; exact fy) | exact (((R.out.at_.pushed Hx.out hrw hcs hf ⟨bx.os, bx.tape, bx.output, bx.size, bx.block⟩ (show Row wx (fun k => wq.heap.size ≤ k) 9 (.slice ca bs.length cc) (bs.map Value.string) from hrow) hown5 hgrow (hat.imp id (fun e => by rw [e]; have := bx.size; simp [World.drew] at *; omega)) hlt5).1).free 2)
          clear hK K
          (try simp only [Act.put, List.setIfInBounds_toArray, List.set_cons_zero, List.set_cons_succ])
          refine wpAnyH_ready (rs := [8]) (by kernel_rfl) (by simp) ?_
          refine (AllReadyH.cons (o := (Go.Oper.mk (some 33) (Go.Op.call (Go.Call.mk (Go.Callee.builtin Go.Builtin.append) #[Go.Operand.tmp 29, Go.Operand.tmp 32] #[22, 22])) 22 _ #[Go.Edge.mk 4 Go.Ground.data, Go.Edge.mk 7 Go.Ground.data, Go.Edge.mk 6 Go.Ground.chain] none)) rfl (fun K hK => ?_) AllReadyH.nil)
          · skip
            (refine step_append_lies _ (by rfl) _ _ _ (by rfl) 0 23 i0 _ 1 24 Try.underlying22 hi hz0 hz1 hz2 rfl (by omega) (.slice ao S.queue.length cp) S.queue.length xs (by rfl) (ox.alloc _) ⟨wx.heap.size, 0, none⟩ 1 1 [.slice ca bs.length cc] (by rfl) (by rfl) (World.news_of_block (cs := #[.slice ca bs.length cc]) (t := 23) (fr := (0, 0)) (heap_alloc_new wx _)) (by simp [Value.oneCell']) (by omega) h63 hby (Nat.zero_le _) _ rfl ?_; intro gg cap w5 hown5 hgrow hat hlt5; have cy : w5.cell? ⟨b, 2, none⟩ = some (.slice ao S.queue.length cp) := (by rw [hgrow.cell_far ⟨b, 2, none⟩ (by simp; omega) (Ne.symm hap)]; exact ax _); have fy : w5.frozen? ⟨b, 2, none⟩ = false := (by rw [hgrow.frozen_far ⟨b, 2, none⟩ (by simp; omega) (Ne.symm hap)]; exact zx _))
            refine hK.out _ _ ?_ (fun hHeld => ?_)
            · first | exact f2 | exact fx | exact zx _ | exact fy | (simp only [World.frozen?_setCell]; exact fy) | exact (((R.out.at_.pushed Hx.out hrw hcs hf ⟨bx.os, bx.tape, bx.output, bx.size, bx.block⟩ (show Row wx (fun k => wq.heap.size ≤ k) 9 (.slice ca bs.length cc) (bs.map Value.string) from hrow) hown5 hgrow (hat.imp id (fun e => by rw [e]; have := bx.size; simp [World.drew] at *; omega)) hlt5).1).free 2)
            clear hK K
            (try simp only [Act.put, List.setIfInBounds_toArray, List.set_cons_zero, List.set_cons_succ])
            refine wpAnyH_take (i := 9) (oi := (Go.Oper.mk (some 34) (Go.Op.nilCheck (Go.Operand.tmp 25)) 0 _ #[Go.Edge.mk 0 Go.Ground.data, Go.Edge.mk 0 Go.Ground.phase, Go.Edge.mk 1 Go.Ground.phase, Go.Edge.mk 2 Go.Ground.phase, Go.Edge.mk 3 Go.Ground.phase, Go.Edge.mk 4 Go.Ground.phase, Go.Edge.mk 5 Go.Ground.phase, Go.Edge.mk 6 Go.Ground.phase, Go.Edge.mk 7 Go.Ground.phase, Go.Edge.mk 8 Go.Ground.phase] none)) (v := ?_) rfl (by kernel_rfl) (by kernel_rfl) (by kernel_rfl) (fun _ _ _ h => h) (Or.inl ⟨by rfl, ?_⟩) hHeld ?_
            rotate_left
            · intro w hSw; (try dsimp only at hSw); go_simp; (try with_reducible rfl)
            simp only [Act.put, List.setIfInBounds_toArray, List.set_cons_zero, List.set_cons_succ]
            refine wpAnyH_take (i := 10) (oi := (Go.Oper.mk (some 35) (Go.Op.fieldAddr 64 (Go.Operand.tmp 34) 2) 0 _ #[Go.Edge.mk 9 Go.Ground.data, Go.Edge.mk 0 Go.Ground.phase, Go.Edge.mk 1 Go.Ground.phase, Go.Edge.mk 2 Go.Ground.phase, Go.Edge.mk 3 Go.Ground.phase, Go.Edge.mk 4 Go.Ground.phase, Go.Edge.mk 5 Go.Ground.phase, Go.Edge.mk 6 Go.Ground.phase, Go.Edge.mk 7 Go.Ground.phase, Go.Edge.mk 8 Go.Ground.phase] none)) (v := ?_) rfl (by kernel_rfl) (by kernel_rfl) (by kernel_rfl) (fun _ _ _ h => h) (Or.inl ⟨by rfl, ?_⟩) hHeld ?_
            rotate_left
            · intro w hSw; (try dsimp only at hSw); go_simp; (try with_reducible rfl)
            simp only [Act.put, List.setIfInBounds_toArray, List.set_cons_zero, List.set_cons_succ]
            refine wpAnyH_ready (rs := [11]) (by kernel_rfl) (by simp) ?_
            refine (AllReadyH.cons (o := (Go.Oper.mk none (Go.Op.store 22 (Go.Operand.tmp 35) (Go.Operand.tmp 33)) 0 _ #[Go.Edge.mk 10 Go.Ground.data, Go.Edge.mk 8 Go.Ground.data, Go.Edge.mk 8 Go.Ground.chain, Go.Edge.mk 0 Go.Ground.phase, Go.Edge.mk 1 Go.Ground.phase, Go.Edge.mk 2 Go.Ground.phase, Go.Edge.mk 3 Go.Ground.phase, Go.Edge.mk 4 Go.Ground.phase, Go.Edge.mk 5 Go.Ground.phase, Go.Edge.mk 6 Go.Ground.phase, Go.Edge.mk 7 Go.Ground.phase, Go.Edge.mk 8 Go.Ground.phase] none)) rfl (fun K hK => ?_) AllReadyH.nil)
            · skip
              go_simp
              refine hK.out _ _ ?_ (fun hHeld => ?_)
              · first | exact f2 | exact fx | exact zx _ | exact fy | (simp only [World.frozen?_setCell]; exact fy) | exact (((R.out.at_.pushed Hx.out hrw hcs hf ⟨bx.os, bx.tape, bx.output, bx.size, bx.block⟩ (show Row wx (fun k => wq.heap.size ≤ k) 9 (.slice ca bs.length cc) (bs.map Value.string) from hrow) hown5 hgrow (hat.imp id (fun e => by rw [e]; have := bx.size; simp [World.drew] at *; omega)) hlt5).1).free 2)
              clear hK K
              (try simp only [Act.put, List.setIfInBounds_toArray, List.set_cons_zero, List.set_cons_succ])
              refine wpAnyH_done (by kernel_rfl) ?_ _
              have bx' : Below wq.heap.size wq wx := ⟨bx.os, bx.tape, bx.output, bx.size, bx.block⟩
              have P := Lib.hid (R.out.at_.pushed Hx.out hrw hcs hf bx' (show Row wx (fun k => wq.heap.size ≤ k) 9 (.slice ca bs.length cc) (bs.map Value.string) from hrow) hown5 hgrow (hat.imp id (fun e => by rw [e]; have := bx'.size; simp; omega)) hlt5)
              have hb5 : w5.heap[w.heap.size]? = wq.heap[w.heap.size]? := by
                rw [hgrow.block _ (by have := bx'.size; simp; omega) ?_, Below.heap_alloc _ _ _ (by have := bx'.size; omega), bx'.block _ hwlt]
                intro e
                obtain ⟨cur, hc⟩ := row_block hrw.1 e.symm
                rw [HB0.out] at hc; simp at hc
              have hw5 : w.heap.size < w5.heap.size := by have := bx'.size; have := hgrow.size; simp at this; omega
              have HB5 := Lib.hid (hb5.trans HB0.out)
              clear hcs hrow hown5 hq ox hgrow hat hrw hb5 ax zx cx fx cy fy
              go_wp2_with fail
              ((with_reducible refine (rok_any _ _).mono ?_); rintro e w3 ⟨rfl, b3⟩)
              have hbx : w3.heap[w.heap.size]? = some (.cells #[.int .i64 0, .string ⟨#[]⟩, .int .i64 0, .slice none 0 0] 31 (0, 0)) := by
                rw [b3.block _ (by rw [heap_setCell_size]; exact hw5), Below.heap_setCell _ _ _ _ hbw.symm]
                exact HB5.out
              have HBX := Lib.hid hbx
              obtain ⟨k0, k1, k2, k3, z0⟩ := box_cells hbx
              clear hbx
              go_wp2
              refine bodyPost_ret (reply_end rfl _ w.heap.size rfl Try.underlying31 (by kernel_rfl) HBX.out rfl _ _ _ _) rfl ⟨rfl, ?_⟩
              refine ⟨fun k => F k ∨ (wq.heap.size ≤ k ∧ k < w5.heap.size), RSessAt.sess ((P.out.1.below b3).reply (fun hk => hk.elim hn (fun h2 => by omega)) _ _ _ _), fun k hk => hk.imp id (fun h2 => by have := h2.1; omega), (((Wr.of_below R.out.below).trans P.out.2 (Grew.refl _ _)).trans (Wr.of_below b3) (Grew.refl _ _)).reply (Nat.le_refl _) _ _ _ _⟩
    · skip
      (rw [if_pos (by rfl)]; refine wp_append_row (w0 := wq.drew) _ _ rfl [] (texts bs) _ _ rfl rfl (Made.nil _ _) HS.out (Below.refl _ _) (by simp [texts_length]; omega) ?_; intro v6 wx m6 bx b6'; clear b6'; rw [List.nil_append] at m6; obtain ⟨ca, cc, hv6⟩ := m6.shape; rw [texts_length] at hv6; subst hv6; have hrow : Row wx (fun k => wq.drew.heap.size ≤ k) 9 (.slice ca bs.length cc) (bs.map Value.string) := (by have := m6; unfold Made at this; rw [show (texts bs).map strV = bs.map Value.string by simp [texts, strV, str_of, Function.comp_def]] at this; exact this); have ox := ownsRow_below (w := wq.drew) hq bx; have hxb : b < wx.heap.size := Nat.lt_of_lt_of_le hblt bx.size; have cx : wx.cell? ⟨b, 2, none⟩ = some (.slice ao S.queue.length cp) := (bx.cell (p := ⟨b, 2, none⟩) hblt).trans c2; have fx : wx.frozen? ⟨b, 2, none⟩ = false := (bx.frozen (p := ⟨b, 2, none⟩) hblt).trans f2; have ax : ∀ o, (wx.alloc o).cell? ⟨b, 2, none⟩ = some (.slice ao S.queue.length cp) := (fun o => (((Below.refl _ _).alloc (Nat.le_refl _) o).cell (p := ⟨b, 2, none⟩) hxb).trans cx); have zx : ∀ o, (wx.alloc o).frozen? ⟨b, 2, none⟩ = false := (fun o => (((Below.refl _ _).alloc (Nat.le_refl _) o).frozen (p := ⟨b, 2, none⟩) hxb).trans fx); clear m6)
      refine hK.out _ _ ?_ (fun hHeld => ?_)
      · first | exact f2 | exact fx | exact zx _ | exact fy | (simp only [World.frozen?_setCell]; exact fy) | exact (((R.out.at_.pushed Hx.out hrw hcs hf ⟨bx.os, bx.tape, bx.output, bx.size, bx.block⟩ (show Row wx (fun k => wq.heap.size ≤ k) 9 (.slice ca bs.length cc) (bs.map Value.string) from hrow) hown5 hgrow (hat.imp id (fun e => by rw [e]; have := bx.size; simp [World.drew] at *; omega)) hlt5).1).free 2)
      clear hK K
      (try simp only [Act.put, List.setIfInBounds_toArray, List.set_cons_zero, List.set_cons_succ])
      refine wpAnyH_ready (rs := [4, 7]) (by kernel_rfl) (by simp) ?_
      refine (AllReadyH.cons (o := (Go.Oper.mk (some 29) (Go.Op.load 22 (Go.Operand.tmp 28)) 22 _ #[Go.Edge.mk 3 Go.Ground.data] none)) rfl (fun K hK => ?_) (AllReadyH.cons (o := (Go.Oper.mk (some 32) (Go.Op.buildSlice 22 1 #[(0, Go.Operand.tmp 31)]) 22 _ #[Go.Edge.mk 6 Go.Ground.data] none)) rfl (fun K hK => ?_) AllReadyH.nil))
      · skip
        go_simp
        refine hK.out _ _ ?_ (fun hHeld => ?_)
        · first | exact f2 | exact fx | exact zx _ | exact fy | (simp only [World.frozen?_setCell]; exact fy) | exact (((R.out.at_.pushed Hx.out hrw hcs hf ⟨bx.os, bx.tape, bx.output, bx.size, bx.block⟩ (show Row wx (fun k => wq.heap.size ≤ k) 9 (.slice ca bs.length cc) (bs.map Value.string) from hrow) hown5 hgrow (hat.imp id (fun e => by rw [e]; have := bx.size; simp [World.drew] at *; omega)) hlt5).1).free 2)
        clear hK K
        (try simp only [Act.put, List.setIfInBounds_toArray, List.set_cons_zero, List.set_cons_succ])
        refine wpAnyH_ready (rs := [7]) (by kernel_rfl) (by simp) ?_
        refine (AllReadyH.cons (o := (Go.Oper.mk (some 32) (Go.Op.buildSlice 22 1 #[(0, Go.Operand.tmp 31)]) 22 _ #[Go.Edge.mk 6 Go.Ground.data] none)) rfl (fun K hK => ?_) AllReadyH.nil)
        · skip
          go_simp
          refine hK.out _ _ ?_ (fun hHeld => ?_)
          · first | exact f2 | exact fx | exact zx _ | exact fy | (simp only [World.frozen?_setCell]; exact fy) | exact (((R.out.at_.pushed Hx.out hrw hcs hf ⟨bx.os, bx.tape, bx.output, bx.size, bx.block⟩ (show Row wx (fun k => wq.heap.size ≤ k) 9 (.slice ca bs.length cc) (bs.map Value.string) from hrow) hown5 hgrow (hat.imp id (fun e => by rw [e]; have := bx.size; simp [World.drew] at *; omega)) hlt5).1).free 2)
          clear hK K
          (try simp only [Act.put, List.setIfInBounds_toArray, List.set_cons_zero, List.set_cons_succ])
          refine wpAnyH_ready (rs := [8]) (by kernel_rfl) (by simp) ?_
          refine (AllReadyH.cons (o := (Go.Oper.mk (some 33) (Go.Op.call (Go.Call.mk (Go.Callee.builtin Go.Builtin.append) #[Go.Operand.tmp 29, Go.Operand.tmp 32] #[22, 22])) 22 _ #[Go.Edge.mk 4 Go.Ground.data, Go.Edge.mk 7 Go.Ground.data, Go.Edge.mk 6 Go.Ground.chain] none)) rfl (fun K hK => ?_) AllReadyH.nil)
          · skip
            (refine step_append_lies _ (by rfl) _ _ _ (by rfl) 0 23 i0 _ 1 24 Try.underlying22 hi hz0 hz1 hz2 rfl (by omega) (.slice ao S.queue.length cp) S.queue.length xs (by rfl) (ox.alloc _) ⟨wx.heap.size, 0, none⟩ 1 1 [.slice ca bs.length cc] (by rfl) (by rfl) (World.news_of_block (cs := #[.slice ca bs.length cc]) (t := 23) (fr := (0, 0)) (heap_alloc_new wx _)) (by simp [Value.oneCell']) (by omega) h63 hby (Nat.zero_le _) _ rfl ?_; intro gg cap w5 hown5 hgrow hat hlt5; have cy : w5.cell? ⟨b, 2, none⟩ = some (.slice ao S.queue.length cp) := (by rw [hgrow.cell_far ⟨b, 2, none⟩ (by simp; omega) (Ne.symm hap)]; exact ax _); have fy : w5.frozen? ⟨b, 2, none⟩ = false := (by rw [hgrow.frozen_far ⟨b, 2, none⟩ (by simp; omega) (Ne.symm hap)]; exact zx _))
            refine hK.out _ _ ?_ (fun hHeld => ?_)
            · first | exact f2 | exact fx | exact zx _ | exact fy | (simp only [World.frozen?_setCell]; exact fy) | exact (((R.out.at_.pushed Hx.out hrw hcs hf ⟨bx.os, bx.tape, bx.output, bx.size, bx.block⟩ (show Row wx (fun k => wq.heap.size ≤ k) 9 (.slice ca bs.length cc) (bs.map Value.string) from hrow) hown5 hgrow (hat.imp id (fun e => by rw [e]; have := bx.size; simp [World.drew] at *; omega)) hlt5).1).free 2)
            clear hK K
            (try simp only [Act.put, List.setIfInBounds_toArray, List.set_cons_zero, List.set_cons_succ])
            refine wpAnyH_take (i := 9) (oi := (Go.Oper.mk (some 34) (Go.Op.nilCheck (Go.Operand.tmp 25)) 0 _ #[Go.Edge.mk 0 Go.Ground.data, Go.Edge.mk 0 Go.Ground.phase, Go.Edge.mk 1 Go.Ground.phase, Go.Edge.mk 2 Go.Ground.phase, Go.Edge.mk 3 Go.Ground.phase, Go.Edge.mk 4 Go.Ground.phase, Go.Edge.mk 5 Go.Ground.phase, Go.Edge.mk 6 Go.Ground.phase, Go.Edge.mk 7 Go.Ground.phase, Go.Edge.mk 8 Go.Ground.phase] none)) (v := ?_) rfl (by kernel_rfl) (by kernel_rfl) (by kernel_rfl) (fun _ _ _ h => h) (Or.inl ⟨by rfl, ?_⟩) hHeld ?_
            rotate_left
            · intro w hSw; (try dsimp only at hSw); go_simp; (try with_reducible rfl)
            simp only [Act.put, List.setIfInBounds_toArray, List.set_cons_zero, List.set_cons_succ]
            refine wpAnyH_take (i := 10) (oi := (Go.Oper.mk (some 35) (Go.Op.fieldAddr 64 (Go.Operand.tmp 34) 2) 0 _ #[Go.Edge.mk 9 Go.Ground.data, Go.Edge.mk 0 Go.Ground.phase, Go.Edge.mk 1 Go.Ground.phase, Go.Edge.mk 2 Go.Ground.phase, Go.Edge.mk 3 Go.Ground.phase, Go.Edge.mk 4 Go.Ground.phase, Go.Edge.mk 5 Go.Ground.phase, Go.Edge.mk 6 Go.Ground.phase, Go.Edge.mk 7 Go.Ground.phase, Go.Edge.mk 8 Go.Ground.phase] none)) (v := ?_) rfl (by kernel_rfl) (by kernel_rfl) (by kernel_rfl) (fun _ _ _ h => h) (Or.inl ⟨by rfl, ?_⟩) hHeld ?_
            rotate_left
            · intro w hSw; (try dsimp only at hSw); go_simp; (try with_reducible rfl)
            simp only [Act.put, List.setIfInBounds_toArray, List.set_cons_zero, List.set_cons_succ]
            refine wpAnyH_ready (rs := [11]) (by kernel_rfl) (by simp) ?_
            refine (AllReadyH.cons (o := (Go.Oper.mk none (Go.Op.store 22 (Go.Operand.tmp 35) (Go.Operand.tmp 33)) 0 _ #[Go.Edge.mk 10 Go.Ground.data, Go.Edge.mk 8 Go.Ground.data, Go.Edge.mk 8 Go.Ground.chain, Go.Edge.mk 0 Go.Ground.phase, Go.Edge.mk 1 Go.Ground.phase, Go.Edge.mk 2 Go.Ground.phase, Go.Edge.mk 3 Go.Ground.phase, Go.Edge.mk 4 Go.Ground.phase, Go.Edge.mk 5 Go.Ground.phase, Go.Edge.mk 6 Go.Ground.phase, Go.Edge.mk 7 Go.Ground.phase, Go.Edge.mk 8 Go.Ground.phase] none)) rfl (fun K hK => ?_) AllReadyH.nil)
            · skip
              go_simp
              refine hK.out _ _ ?_ (fun hHeld => ?_)
              · first | exact f2 | exact fx | exact zx _ | exact fy | (simp only [World.frozen?_setCell]; exact fy) | exact (((R.out.at_.pushed Hx.out hrw hcs hf ⟨bx.os, bx.tape, bx.output, bx.size, bx.block⟩ (show Row wx (fun k => wq.heap.size ≤ k) 9 (.slice ca bs.length cc) (bs.map Value.string) from hrow) hown5 hgrow (hat.imp id (fun e => by rw [e]; have := bx.size; simp [World.drew] at *; omega)) hlt5).1).free 2)
              clear hK K
              (try simp only [Act.put, List.setIfInBounds_toArray, List.set_cons_zero, List.set_cons_succ])
              refine wpAnyH_done (by kernel_rfl) ?_ _
              have bx' : Below wq.heap.size wq wx := ⟨bx.os, bx.tape, bx.output, bx.size, bx.block⟩
              have P := Lib.hid (R.out.at_.pushed Hx.out hrw hcs hf bx' (show Row wx (fun k => wq.heap.size ≤ k) 9 (.slice ca bs.length cc) (bs.map Value.string) from hrow) hown5 hgrow (hat.imp id (fun e => by rw [e]; have := bx'.size; simp; omega)) hlt5)
              have hb5 : w5.heap[w.heap.size]? = wq.heap[w.heap.size]? := by
                rw [hgrow.block _ (by have := bx'.size; simp; omega) ?_, Below.heap_alloc _ _ _ (by have := bx'.size; omega), bx'.block _ hwlt]
                intro e
                obtain ⟨cur, hc⟩ := row_block hrw.1 e.symm
                rw [HB0.out] at hc; simp at hc
              have hw5 : w.heap.size < w5.heap.size := by have := bx'.size; have := hgrow.size; simp at this; omega
              have HB5 := Lib.hid (hb5.trans HB0.out)
              clear hcs hrow hown5 hq ox hgrow hat hrw hb5 ax zx cx fx cy fy
              go_wp2_with fail
              ((with_reducible refine (rok_any _ _).mono ?_); rintro e w3 ⟨rfl, b3⟩)
              have hbx : w3.heap[w.heap.size]? = some (.cells #[.int .i64 0, .string ⟨#[]⟩, .int .i64 0, .slice none 0 0] 31 (0, 0)) := by
                rw [b3.block _ (by rw [heap_setCell_size]; exact hw5), Below.heap_setCell _ _ _ _ hbw.symm]
                exact HB5.out
              have HBX := Lib.hid hbx
              obtain ⟨k0, k1, k2, k3, z0⟩ := box_cells hbx
              clear hbx
              go_wp2
              refine bodyPost_ret (reply_end rfl _ w.heap.size rfl Try.underlying31 (by kernel_rfl) HBX.out rfl _ _ _ _) rfl ⟨rfl, ?_⟩
              refine ⟨fun k => F k ∨ (wq.heap.size ≤ k ∧ k < w5.heap.size), RSessAt.sess ((P.out.1.below b3).reply (fun hk => hk.elim hn (fun h2 => by omega)) _ _ _ _), fun k hk => hk.imp id (fun h2 => by have := h2.1; omega), (((Wr.of_below R.out.below).trans P.out.2 (Grew.refl _ _)).trans (Wr.of_below b3) (Grew.refl _ _)).reply (Nat.le_refl _) _ _ _ _⟩
      · skip
        go_simp
        refine hK.out _ _ ?_ (fun hHeld => ?_)
        · first | exact f2 | exact fx | exact zx _ | exact fy | (simp only [World.frozen?_setCell]; exact fy) | exact (((R.out.at_.pushed Hx.out hrw hcs hf ⟨bx.os, bx.tape, bx.output, bx.size, bx.block⟩ (show Row wx (fun k => wq.heap.size ≤ k) 9 (.slice ca bs.length cc) (bs.map Value.string) from hrow) hown5 hgrow (hat.imp id (fun e => by rw [e]; have := bx.size; simp [World.drew] at *; omega)) hlt5).1).free 2)
        clear hK K
        (try simp only [Act.put, List.setIfInBounds_toArray, List.set_cons_zero, List.set_cons_succ])
        refine wpAnyH_ready (rs := [4]) (by kernel_rfl) (by simp) ?_
        refine (AllReadyH.cons (o := (Go.Oper.mk (some 29) (Go.Op.load 22 (Go.Operand.tmp 28)) 22 _ #[Go.Edge.mk 3 Go.Ground.data] none)) rfl (fun K hK => ?_) AllReadyH.nil)
        · skip
          go_simp
          refine hK.out _ _ ?_ (fun hHeld => ?_)
          · first | exact f2 | exact fx | exact zx _ | exact fy | (simp only [World.frozen?_setCell]; exact fy) | exact (((R.out.at_.pushed Hx.out hrw hcs hf ⟨bx.os, bx.tape, bx.output, bx.size, bx.block⟩ (show Row wx (fun k => wq.heap.size ≤ k) 9 (.slice ca bs.length cc) (bs.map Value.string) from hrow) hown5 hgrow (hat.imp id (fun e => by rw [e]; have := bx.size; simp [World.drew] at *; omega)) hlt5).1).free 2)
          clear hK K
          (try simp only [Act.put, List.setIfInBounds_toArray, List.set_cons_zero, List.set_cons_succ])
          refine wpAnyH_ready (rs := [8]) (by kernel_rfl) (by simp) ?_
          refine (AllReadyH.cons (o := (Go.Oper.mk (some 33) (Go.Op.call (Go.Call.mk (Go.Callee.builtin Go.Builtin.append) #[Go.Operand.tmp 29, Go.Operand.tmp 32] #[22, 22])) 22 _ #[Go.Edge.mk 4 Go.Ground.data, Go.Edge.mk 7 Go.Ground.data, Go.Edge.mk 6 Go.Ground.chain] none)) rfl (fun K hK => ?_) AllReadyH.nil)
          · skip
            (refine step_append_lies _ (by rfl) _ _ _ (by rfl) 0 23 i0 _ 1 24 Try.underlying22 hi hz0 hz1 hz2 rfl (by omega) (.slice ao S.queue.length cp) S.queue.length xs (by rfl) (ox.alloc _) ⟨wx.heap.size, 0, none⟩ 1 1 [.slice ca bs.length cc] (by rfl) (by rfl) (World.news_of_block (cs := #[.slice ca bs.length cc]) (t := 23) (fr := (0, 0)) (heap_alloc_new wx _)) (by simp [Value.oneCell']) (by omega) h63 hby (Nat.zero_le _) _ rfl ?_; intro gg cap w5 hown5 hgrow hat hlt5; have cy : w5.cell? ⟨b, 2, none⟩ = some (.slice ao S.queue.length cp) := (by rw [hgrow.cell_far ⟨b, 2, none⟩ (by simp; omega) (Ne.symm hap)]; exact ax _); have fy : w5.frozen? ⟨b, 2, none⟩ = false := (by rw [hgrow.frozen_far ⟨b, 2, none⟩ (by simp; omega) (Ne.symm hap)]; exact zx _))
            refine hK.out _ _ ?_ (fun hHeld => ?_)
            · first | exact f2 | exact fx | exact zx _ | exact fy | (simp only [World.frozen?_setCell]; exact fy) | exact (((R.out.at_.pushed Hx.out hrw hcs hf ⟨bx.os, bx.tape, bx.output, bx.size, bx.block⟩ (show Row wx (fun k => wq.heap.size ≤ k) 9 (.slice ca bs.length cc) (bs.map Value.string) from hrow) hown5 hgrow (hat.imp id (fun e => by rw [e]; have := bx.size; simp [World.drew] at *; omega)) hlt5).1).free 2)
            clear hK K
            (try simp only [Act.put, List.setIfInBounds_toArray, List.set_cons_zero, List.set_cons_succ])
            refine wpAnyH_take (i := 9) (oi := (Go.Oper.mk (some 34) (Go.Op.nilCheck (Go.Operand.tmp 25)) 0 _ #[Go.Edge.mk 0 Go.Ground.data, Go.Edge.mk 0 Go.Ground.phase, Go.Edge.mk 1 Go.Ground.phase, Go.Edge.mk 2 Go.Ground.phase, Go.Edge.mk 3 Go.Ground.phase, Go.Edge.mk 4 Go.Ground.phase, Go.Edge.mk 5 Go.Ground.phase, Go.Edge.mk 6 Go.Ground.phase, Go.Edge.mk 7 Go.Ground.phase, Go.Edge.mk 8 Go.Ground.phase] none)) (v := ?_) rfl (by kernel_rfl) (by kernel_rfl) (by kernel_rfl) (fun _ _ _ h => h) (Or.inl ⟨by rfl, ?_⟩) hHeld ?_
            rotate_left
            · intro w hSw; (try dsimp only at hSw); go_simp; (try with_reducible rfl)
            simp only [Act.put, List.setIfInBounds_toArray, List.set_cons_zero, List.set_cons_succ]
            refine wpAnyH_take (i := 10) (oi := (Go.Oper.mk (some 35) (Go.Op.fieldAddr 64 (Go.Operand.tmp 34) 2) 0 _ #[Go.Edge.mk 9 Go.Ground.data, Go.Edge.mk 0 Go.Ground.phase, Go.Edge.mk 1 Go.Ground.phase, Go.Edge.mk 2 Go.Ground.phase, Go.Edge.mk 3 Go.Ground.phase, Go.Edge.mk 4 Go.Ground.phase, Go.Edge.mk 5 Go.Ground.phase, Go.Edge.mk 6 Go.Ground.phase, Go.Edge.mk 7 Go.Ground.phase, Go.Edge.mk 8 Go.Ground.phase] none)) (v := ?_) rfl (by kernel_rfl) (by kernel_rfl) (by kernel_rfl) (fun _ _ _ h => h) (Or.inl ⟨by rfl, ?_⟩) hHeld ?_
            rotate_left
            · intro w hSw; (try dsimp only at hSw); go_simp; (try with_reducible rfl)
            simp only [Act.put, List.setIfInBounds_toArray, List.set_cons_zero, List.set_cons_succ]
            refine wpAnyH_ready (rs := [11]) (by kernel_rfl) (by simp) ?_
            refine (AllReadyH.cons (o := (Go.Oper.mk none (Go.Op.store 22 (Go.Operand.tmp 35) (Go.Operand.tmp 33)) 0 _ #[Go.Edge.mk 10 Go.Ground.data, Go.Edge.mk 8 Go.Ground.data, Go.Edge.mk 8 Go.Ground.chain, Go.Edge.mk 0 Go.Ground.phase, Go.Edge.mk 1 Go.Ground.phase, Go.Edge.mk 2 Go.Ground.phase, Go.Edge.mk 3 Go.Ground.phase, Go.Edge.mk 4 Go.Ground.phase, Go.Edge.mk 5 Go.Ground.phase, Go.Edge.mk 6 Go.Ground.phase, Go.Edge.mk 7 Go.Ground.phase, Go.Edge.mk 8 Go.Ground.phase] none)) rfl (fun K hK => ?_) AllReadyH.nil)
            · skip
              go_simp
              refine hK.out _ _ ?_ (fun hHeld => ?_)
              · first | exact f2 | exact fx | exact zx _ | exact fy | (simp only [World.frozen?_setCell]; exact fy) | exact (((R.out.at_.pushed Hx.out hrw hcs hf ⟨bx.os, bx.tape, bx.output, bx.size, bx.block⟩ (show Row wx (fun k => wq.heap.size ≤ k) 9 (.slice ca bs.length cc) (bs.map Value.string) from hrow) hown5 hgrow (hat.imp id (fun e => by rw [e]; have := bx.size; simp [World.drew] at *; omega)) hlt5).1).free 2)
              clear hK K
              (try simp only [Act.put, List.setIfInBounds_toArray, List.set_cons_zero, List.set_cons_succ])
              refine wpAnyH_done (by kernel_rfl) ?_ _
              have bx' : Below wq.heap.size wq wx := ⟨bx.os, bx.tape, bx.output, bx.size, bx.block⟩
              have P := Lib.hid (R.out.at_.pushed Hx.out hrw hcs hf bx' (show Row wx (fun k => wq.heap.size ≤ k) 9 (.slice ca bs.length cc) (bs.map Value.string) from hrow) hown5 hgrow (hat.imp id (fun e => by rw [e]; have := bx'.size; simp; omega)) hlt5)
              have hb5 : w5.heap[w.heap.size]? = wq.heap[w.heap.size]? := by
                rw [hgrow.block _ (by have := bx'.size; simp; omega) ?_, Below.heap_alloc _ _ _ (by have := bx'.size; omega), bx'.block _ hwlt]
                intro e
                obtain ⟨cur, hc⟩ := row_block hrw.1 e.symm
                rw [HB0.out] at hc; simp at hc
              have hw5 : w.heap.size < w5.heap.size := by have := bx'.size; have := hgrow.size; simp at this; omega
              have HB5 := Lib.hid (hb5.trans HB0.out)
              clear hcs hrow hown5 hq ox hgrow hat hrw hb5 ax zx cx fx cy fy
              go_wp2_with fail
              ((with_reducible refine (rok_any _ _).mono ?_); rintro e w3 ⟨rfl, b3⟩)
              have hbx : w3.heap[w.heap.size]? = some (.cells #[.int .i64 0, .string ⟨#[]⟩, .int .i64 0, .slice none 0 0] 31 (0, 0)) := by
                rw [b3.block _ (by rw [heap_setCell_size]; exact hw5), Below.heap_setCell _ _ _ _ hbw.symm]
                exact HB5.out
              have HBX := Lib.hid hbx
              obtain ⟨k0, k1, k2, k3, z0⟩ := box_cells hbx
              clear hbx
              go_wp2
              refine bodyPost_ret (reply_end rfl _ w.heap.size rfl Try.underlying31 (by kernel_rfl) HBX.out rfl _ _ _ _) rfl ⟨rfl, ?_⟩
              refine ⟨fun k => F k ∨ (wq.heap.size ≤ k ∧ k < w5.heap.size), RSessAt.sess ((P.out.1.below b3).reply (fun hk => hk.elim hn (fun h2 => by omega)) _ _ _ _), fun k hk => hk.imp id (fun h2 => by have := h2.1; omega), (((Wr.of_below R.out.below).trans P.out.2 (Grew.refl _ _)).trans (Wr.of_below b3) (Grew.refl _ _)).reply (Nat.le_refl _) _ _ _ _⟩
end Go.Proofs.Ytflhcffpfiameaa
