/- The walks of a session's methods: the queue. -/
import Derived.Test.YtflhcffpfiameaaSess3
import Derived.Deep.AppendLies
import Derived.Deep.RegionHeld3
import Derived.BigRegion
import Derived.Deep.QuietTactic
import Derived.BigQuiet
namespace Go.Proofs.Ytflhcffpfiameaa
open Go.ChangeShapes Go.WideShapes Go.ChangeAt Go.RowKit Go.Maps
set_option linter.unusedVariables false

def listsB (bs : List ByteArray) : List (List UInt8) := bs.map (·.data.toList)
theorem listsB_strV (bs : List ByteArray) : (listsB bs).map strV = bs.map Value.string := by simp [listsB, strV, str_of, Function.comp_def]
theorem ownsRow_base {w : World} {B C : Nat} {e : TypeId} {v : Value} {n : Nat} {xs : List Value} (h : w.ownsRow B e 1 v n xs) (hC : C ≤ B) : w.ownsRow C e 1 v n xs := by
  refine ⟨h.1, h.2.imp id ?_⟩
  rintro ⟨g, cap, cur, h1, h2, r⟩
  exact ⟨g, cap, cur, h1, Nat.le_trans hC h2, r⟩
/-- A copy of a row of texts. -/
def CloneEnd (bs : List ByteArray) (w : World) (e : Ending) (w' : World) : Prop :=
  ∃ v, e = .returned v ∧ Row w' (fun k => w.heap.size ≤ k) 9 v (bs.map Value.string) ∧ (∃ ao cp, v = .slice ao bs.length cp) ∧ Below w.heap.size w w'
theorem clone_any (bs : List ByteArray) (v : Value) (w : World) (hs : SRow w v bs) (hlen : bs.length ≤ 8796093022208) :
    Calls Try.prog 33 #[v] w fun e w' => CloneEnd bs w e w' := by
  obtain ⟨ao, cp, rfl, hs⟩ := hs
  rcases hs with rfl | ⟨g, off, rfl, hg, hc⟩
  · rcases ao with _ | a
    · exact (Try.slices_Clone_string_nil _ _ w).mono fun e w' ⟨h1, h2⟩ => ⟨_, h1, h2 ▸ Row.nil _ _ _, ⟨none, 0, rfl⟩, h2 ▸ Below.refl _ _⟩
    · refine (Try.slices_Clone_string_zero a _ w).mono fun e w' ⟨v', h1, h2, h3, h4⟩ => ⟨v', h1, ⟨ownsRow_base h2 (Nat.zero_le _), fun k hk => (h2.lt k hk).1⟩, ?_, h4⟩
      rcases h2.2 with ⟨e1, e2⟩ | ⟨g, cap, cur, e1, _⟩
      · exact absurd e1 h3
      · exact ⟨_, _, e1⟩
  · refine (Try.slices_Clone_string g off bs.length _ bs w (Nat.le_refl _) (by omega) (fun j hj => ?_)).mono fun e w' ⟨v', h1, h2, h3, h4⟩ => ⟨v', h1, ?_, ?_, h4⟩
    · rw [hc j bs[j] (List.getElem?_eq_getElem hj)]
      simp [List.getD, List.getElem?_eq_getElem hj]
    · rw [List.take_length] at h2
      refine ⟨?_, fun k hk => (h2.lt k hk).1⟩
      rw [List.length_map]
      exact ownsRow_base h2 (Nat.zero_le _)
    · rcases h2.2 with ⟨e1, e2⟩ | ⟨g, cap, cur, e1, _⟩
      · exact absurd e1 h3
      · exact ⟨_, _, e1⟩

/-- A command is queued. -/
def SessM.push (S : SessM) (bs : List ByteArray) : SessM := if S.multi = false then S else if S.queue.length = S.places then { S with refused := true } else { S with queue := S.queue ++ [listsB bs] }
def SessM.pushR (S : SessM) : Value := if S.multi = false then replyV 2 ⟨#[69, 82, 82, 32, 69, 88, 69, 67, 32, 119, 105, 116, 104, 111, 117, 116, 32, 77, 85, 76, 84, 73]⟩ else if S.queue.length = S.places then replyV 2 ⟨#[69, 82, 82, 32, 116, 111, 111, 32, 109, 97, 110, 121, 32, 113, 117, 101, 117, 101, 100, 32, 99, 111, 109, 109, 97, 110, 100, 115]⟩ else replyV 1 ⟨#[81, 85, 69, 85, 69, 68]⟩
theorem box_cells {w3 : World} {g : Nat} (hbx : w3.heap[g]? = some (.cells #[.int .i64 0, .string ⟨#[]⟩, .int .i64 0, .slice none 0 0] 31 (0, 0))) :
    w3.cell? ⟨g, 0, none⟩ = some (.int .i64 0) ∧ w3.cell? ⟨g, 1, none⟩ = some (.string ⟨#[]⟩) ∧ w3.cell? ⟨g, 2, none⟩ = some (.int .i64 0) ∧ w3.cell? ⟨g, 3, none⟩ = some (.slice none 0 0) ∧ ∀ i, w3.frozen? ⟨g, i, none⟩ = false := by
  refine ⟨by simp [World.cell?, hbx], by simp [World.cell?, hbx], by simp [World.cell?, hbx], by simp [World.cell?, hbx], fun i => by simp only [World.frozen?, hbx]; simp⟩

theorem SessAt.boxed {w : World} {b : Nat} {F : Nat → Prop} {S : SessM} {qv : Value} {bm : Nat} {D : DataW Unit} (h : SessAt w b F S qv bm D) : SessAt (boxed w) b F S qv bm D := h.alloc _
def boxO : Obj := .cells #[.int .i64 0, .string ⟨#[]⟩, .int .i64 0, .slice none 0 0] 31
theorem SessAt.sess {w : World} {b : Nat} {F : Nat → Prop} {S : SessM} {qv : Value} {bm : Nat} {D : DataW Unit} (h : SessAt w b F S qv bm D) : Sess w b F S := ⟨qv, bm, D, h⟩
set_option maxHeartbeats 400000 in
theorem queue_not {w : World} {b : Nat} {F : Nat → Prop} {S : SessM} (h : Sess w b F S) (v : Value) (hm : S.multi = false) :
    Calls Try.prog 14 #[.pointer (some ⟨b, 0, none⟩), v] w fun e w' => e = .returned (replyV 2 ⟨#[69, 82, 82, 32, 69, 88, 69, 67, 32, 119, 105, 116, 104, 111, 117, 116, 32, 77, 85, 76, 84, 73]⟩) ∧ Below w.heap.size w w' := by
  obtain ⟨qv, bm, D, h⟩ := h
  have hlt := h.lt b h.own
  have H2 := Lib.hid (SessAt.sess h.boxed)
  have H := Lib.hid h
  clear h
  go_enter Try.func14, Try.ntmps14
  go_wp2_with fail
  ((refine (multi_any H2.out).mono ?_); rintro e w1 ⟨rfl, rfl⟩)
  go_wp2_with fail
  ((with_reducible refine (fault_any _ _).mono ?_); rintro e w1 ⟨rfl, b1⟩)
  have HBX := Lib.hid (boxed_at b1)
  obtain ⟨k0, k1, k2, k3, z0⟩ := box_cells HBX.out
  go_wp2
  refine bodyPost_ret (v := replyV 2 ⟨#[69, 82, 82, 32, 69, 88, 69, 67, 32, 119, 105, 116, 104, 111, 117, 116, 32, 77, 85, 76, 84, 73]⟩) (reply_end rfl _ w.heap.size rfl Try.underlying31 (by kernel_rfl) HBX.out rfl _ _ _ _) rfl ⟨rfl, ?_⟩
  exact ((((Wr.refl (fun _ => False) w).alloc _).trans (Wr.of_below b1) (Grew.refl _ _)).reply (Nat.le_refl _) _ _ _ _).below (fun k hk => hk.elim) (Nat.le_refl _)

theorem SessAt.drewN {w : World} {b : Nat} {F : Nat → Prop} {S : SessM} {qv : Value} {bm : Nat} {D : DataW Unit} (h : SessAt w b F S qv bm D) (n : Nat) : SessAt (w.drewN n) b F S qv bm D := h.below (below_drewN (Below.refl _ _) n)
/-- A world that the call has reached: the session in it, the reply's box. -/
structure Reached (w wq : World) (b : Nat) (F : Nat → Prop) (S : SessM) (qv : Value) (bm : Nat) (D : DataW Unit) : Prop where
  at_ : SessAt wq b F S qv bm D
  bel : Below (boxed w).heap.size (boxed w) wq
theorem Reached.below {w wq : World} {b : Nat} {F : Nat → Prop} {S : SessM} {qv : Value} {bm : Nat} {D : DataW Unit} (h : Reached w wq b F S qv bm D) : Below w.heap.size w wq := (boxed_below w).trans (h.bel.mono (by rw [boxed_size]; omega))
set_option maxHeartbeats 800000 in
theorem queue_full {w : World} {b : Nat} {F : Nat → Prop} {S : SessM} (h : Sess w b F S) (v : Value) (hm : S.multi = true) (hf : S.queue.length = S.places) :
    Calls Try.prog 14 #[.pointer (some ⟨b, 0, none⟩), v] w fun e w' => e = .returned (replyV 2 ⟨#[69, 82, 82, 32, 116, 111, 111, 32, 109, 97, 110, 121, 32, 113, 117, 101, 117, 101, 100, 32, 99, 111, 109, 109, 97, 110, 100, 115]⟩) ∧ Sess w' b F { S with refused := true } ∧ Wr F w w' := by
  obtain ⟨qv, bm, D, h⟩ := h
  have hlt := h.lt b h.own
  obtain ⟨ao, cp, rfl⟩ := h.shape
  obtain ⟨c0, c1, c2, c3, c4, c5⟩ := h.boxed.cells
  have H2 := Lib.hid (SessAt.sess h.boxed)
  have H := Lib.hid h
  clear h
  have hqp : ((S.queue.length : Int) == (S.places : Int)) = true := by rw [hf]; simp
  have Hf := Lib.hid hf
  clear hf
  go_enter Try.func14, Try.ntmps14
  go_wp2_with fail
  ((refine (multi_any H2.out).mono ?_); rintro e w1 ⟨rfl, rfl⟩)
  go_wp2_with fail
  go_quiet (fail)
  have R : Hid (Reached w ((boxed w).drewN nq) b F S (.slice ao S.queue.length cp) bm D) := ⟨H.out.boxed.drewN nq, below_drewN (Below.refl _ _) nq⟩
  generalize (boxed w).drewN nq = wq at *
  clear c0 c1 c2 c3 c4 c5
  obtain ⟨c0, c1, c2, c3, c4, c5⟩ := R.out.at_.cells
  have f3 := R.out.at_.free 3
  have hblt : b < wq.heap.size := R.out.at_.lt b R.out.at_.own
  have hwlt : w.heap.size < wq.heap.size := by have := R.out.bel.size; rw [boxed_size] at this; omega
  have hbw : b ≠ w.heap.size := by omega
  have HB0 := Lib.hid (boxed_at R.out.bel)
  go_wp2_with fail
  ((with_reducible refine (fault_any _ _).mono ?_); rintro e w3 ⟨rfl, b3⟩)
  have hbx : w3.heap[w.heap.size]? = some (.cells #[.int .i64 0, .string ⟨#[]⟩, .int .i64 0, .slice none 0 0] 31 (0, 0)) := by
    rw [b3.block _ (by rw [heap_setCell_size]; exact hwlt), Below.heap_setCell _ _ _ _ hbw.symm]
    exact HB0.out
  have HBX := Lib.hid hbx
  obtain ⟨k0, k1, k2, k3, z0⟩ := box_cells hbx
  clear hbx
  have B3 := Lib.hid b3
  clear b3
  have hn : ¬ F w.heap.size := fun hk => Nat.lt_irrefl _ (H.out.lt _ hk)
  go_wp2
  refine bodyPost_ret (v := replyV 2 ⟨#[69, 82, 82, 32, 116, 111, 111, 32, 109, 97, 110, 121, 32, 113, 117, 101, 117, 101, 100, 32, 99, 111, 109, 109, 97, 110, 100, 115]⟩) (reply_end rfl _ w.heap.size rfl Try.underlying31 (by kernel_rfl) HBX.out rfl _ _ _ _) rfl ⟨rfl, ?_, ?_⟩
  · exact SessAt.sess (((R.out.at_.setR true).below B3.out).reply hn _ _ _ _)
  · exact (((Wr.of_below R.out.below).setCell H.out.own _).trans (Wr.of_below B3.out) (Grew.refl _ _)).reply (Nat.le_refl _) _ _ _ _

theorem ownsRow_below {w w' : World} {B : Nat} {e : TypeId} {v : Value} {n : Nat} {xs : List Value} (h : w.ownsRow B e 1 v n xs) (hb : Below w.heap.size w w') : w'.ownsRow B e 1 v n xs :=
  World.ownsRow.kept (row := none) h ⟨hb.os, hb.tape, hb.output, hb.size, fun k hk _ => hb.block k hk⟩ (by cases hv : v.ownBlock <;> simp)
theorem SessAt.apart {w : World} {b : Nat} {F : Nat → Prop} {S : SessM} {qv : Value} {bm : Nat} {D : DataW Unit} (h : SessAt w b F S qv bm D) : qv.ownBlock ≠ some b := by
  obtain ⟨xs, _, hr, _⟩ := h.rows
  intro e
  rcases hr.1.2 with ⟨h1, _⟩ | ⟨g, cap, cur, rfl, _, hg, _⟩
  · rw [h1] at e; simp [Value.ownBlock] at e
  · simp [Value.ownBlock] at e
    subst e
    rw [h.block] at hg
    simp at hg
theorem row_block {w : World} {B n : Nat} {e : TypeId} {v : Value} {xs : List Value} (h : w.ownsRow B e 1 v n xs) {g : Nat} (hg : v.ownBlock = some g) : ∃ cur, w.heap[g]? = some (.cells cur e (0, 0)) := by
  rcases h.2 with ⟨h1, _⟩ | ⟨g', cap, cur, rfl, _, hh, _⟩
  · rw [h1] at hg; simp [Value.ownBlock] at hg
  · simp [Value.ownBlock] at hg
    subst hg
    exact ⟨cur, hh⟩
theorem SessAt.pushed {wq wx w5 : World} {b : Nat} {F : Nat → Prop} {S : SessM} {qv : Value} {bm : Nat} {D : DataW Unit} (h : SessAt wq b F S qv bm D) {bs : List ByteArray} {x : Value} {gg cap : Nat} {xs : List Value}
    (hxl : xs.length = S.queue.length) (hrw : Row wq F 23 qv xs) (hcs : ∀ (i : Nat) x r, xs[i]? = some x → S.queue[i]? = some r → Row wq F 9 x (r.map strV)) (hf : S.queue.length < S.places)
    (bx : Below wq.heap.size wq wx) (hrow : Row wx (fun k => wq.heap.size ≤ k) 9 x (bs.map Value.string))
    (hown : w5.ownsRow 0 23 1 (.slice (some ⟨gg, 0, none⟩) (S.queue.length + 1) cap) (S.queue.length + 1) (xs ++ [x])) {o : Obj} (hgrow : (wx.alloc o).grownBy w5 qv.ownBlock) (hat : qv.ownBlock = some gg ∨ wq.heap.size ≤ gg) (hlt : gg < w5.heap.size) :
    SessAt (w5.setCell ⟨b, 4, none⟩ (.slice (some ⟨gg, 0, none⟩) (S.queue.length + 1) cap)) b (fun k => F k ∨ (wq.heap.size ≤ k ∧ k < w5.heap.size)) { S with queue := S.queue ++ [listsB bs] } (.slice (some ⟨gg, 0, none⟩) (S.queue.length + 1) cap) bm D ∧
    Wr F wq (w5.setCell ⟨b, 4, none⟩ (.slice (some ⟨gg, 0, none⟩) (S.queue.length + 1) cap)) := by
  have hx2 := h.below bx
  have hap := h.apart
  have hrwx : wx.ownsRow 0 23 1 qv xs.length xs := ownsRow_below hrw.1 bx
  have hsz : wx.heap.size + 1 ≤ w5.heap.size := by have := hgrow.size; simpa using this
  have keep : ∀ k, k < wx.heap.size → qv.ownBlock ≠ some k → w5.heap[k]? = wx.heap[k]? := fun k hk hne => (hgrow.block k (by simp; omega) (Ne.symm hne)).trans (Below.heap_alloc _ _ _ hk)
  have lt_of : ∀ {k : Nat} {ob : Obj}, wx.heap[k]? = some ob → k < wx.heap.size := fun hk => (Array.getElem?_eq_some_iff.1 hk).1
  have b5 : w5.heap[b]? = _ := (keep b (hx2.lt b h.own) hap).trans hx2.block
  have ggb : gg ≠ b := by
    rintro rfl
    obtain ⟨cur, hc⟩ := row_block hown (g := gg) rfl
    rw [b5] at hc; simp at hc
  have notq : ∀ {k : Nat} {cur : Array Value}, wx.heap[k]? = some (.cells cur 9 (0, 0)) → qv.ownBlock ≠ some k := by
    intro k cur hk e
    obtain ⟨c2, hc⟩ := row_block hrwx e
    rw [hk] at hc; simp at hc
  have notb : ∀ {k : Nat} {cur : Array Value}, wx.heap[k]? = some (.cells cur 9 (0, 0)) → k ≠ b := by
    rintro k cur hk rfl
    rw [hx2.block] at hk; simp at hk
  have typed : ∀ (k : Nat) (cur : Array Value), wx.heap[k]? = some (.cells cur 9 (0, 0)) → (w5.setCell ⟨b, 4, none⟩ (.slice (some ⟨gg, 0, none⟩) (S.queue.length + 1) cap)).heap[k]? = wx.heap[k]? := fun k cur hk =>
    (Below.heap_setCell _ _ _ _ (notb hk)).trans (keep k (lt_of hk) (notq hk))
  have hwr : Wr F wq (w5.setCell ⟨b, 4, none⟩ (.slice (some ⟨gg, 0, none⟩) (S.queue.length + 1) cap)) := by
    refine Wr.setCell ?_ h.own _
    exact ((Wr.of_below bx).alloc o).grown hgrow fun k hk => .inl (hrw.2 k hk)
  refine ⟨?_, hwr⟩
  exact {
    lt := fun k hk => by
      rw [heap_setCell_size]
      rcases hk with hk | hk
      · have := hx2.lt k hk; omega
      · exact hk.2
    own := .inl h.own
    places := h.places
    room := by simp; omega
    few := h.few
    lens := h.lens
    nodup := h.nodup
    block := heap_setCell_same b5
    ownM := .inl h.ownM
    map := by
      have hmx := hx2.map
      have hbm : bm ≠ b := fun e => ownsMap_notCells (e ▸ hmx) hx2.block rfl
      have hbq : qv.ownBlock ≠ some bm := by
        intro e
        obtain ⟨c2, hc⟩ := row_block hrwx e
        exact ownsMap_notCells hmx hc rfl
      have hml := hmx.lt
      obtain ⟨es, clock, e, r⟩ := hmx
      exact ⟨es, clock, ((Below.heap_setCell _ _ _ _ hbm).trans (keep bm hml hbq)).trans e, r⟩
    keys := h.keys
    rows := by
      refine ⟨xs ++ [x], by simp [hxl], ⟨?_, ?_⟩, ?_⟩
      · rw [show (xs ++ [x]).length = S.queue.length + 1 by simp [hxl]]
        refine ⟨hown.1, hown.2.imp id ?_⟩
        rintro ⟨g', cap', cur, e, h0, hg, r⟩
        refine ⟨g', cap', cur, e, h0, ?_, r⟩
        have : g' = gg := by simp at e; exact e.1.symm
        rw [Below.heap_setCell _ _ _ _ (by rw [this]; exact ggb)]
        exact hg
      · intro g hg
        simp [Value.ownBlock] at hg
        subst hg
        rcases hat with hat | hat
        · exact .inl (hrw.2 _ hat)
        · exact .inr ⟨hat, hlt⟩
      · intro i y r hy hr
        by_cases hi : i < S.queue.length
        · rw [List.getElem?_append_left (by omega)] at hy
          rw [List.getElem?_append_left hi] at hr
          have h1 := (hcs i y r hy hr).kept (G := fun _ => False) (Wr.of_below bx) (fun _ _ h => h)
          exact (h1.kept_by typed).mono fun k hk => .inl hk
        · have hi2 : i = S.queue.length := by
            have := (List.getElem?_eq_some_iff.1 hr).1
            simp at this; omega
          subst hi2
          have hy2 : y = x := by rw [← hxl] at hy; simpa using hy.symm
          have hr2 : r = listsB bs := by simpa using hr.symm
          subst hy2; subst hr2
          rw [listsB_strV]
          refine ⟨(hrow.kept_by typed).1, fun k hk => .inr ⟨hrow.2 k hk, ?_⟩⟩
          have := hrow.lt hk
          omega }
theorem infoRow : (Try.prog.info? 23).map (fun i => (i.zero, i.size, i.bytes)) = some (some (.slice none 0 0), 1, 24) := by kernel_rfl
set_option maxHeartbeats 3200000 in
set_option maxRecDepth 100000 in
theorem queue_go {w : World} {b : Nat} {F : Nat → Prop} {S : SessM} (h : Sess w b F S) (v : Value) (bs : List ByteArray) (hs : SRow w v bs) (hlen : bs.length ≤ 8796093022208) (hm : S.multi = true) (hf : S.queue.length < S.places) :
    Calls Try.prog 14 #[.pointer (some ⟨b, 0, none⟩), v] w fun e w' => e = .returned (replyV 1 ⟨#[81, 85, 69, 85, 69, 68]⟩) ∧ ∃ F', Sess w' b F' { S with queue := S.queue ++ [listsB bs] } ∧ Grew w F F' ∧ Wr F w w' := by
  obtain ⟨qv, bm, D, h⟩ := h
  have hlt := h.lt b h.own
  obtain ⟨ao, cp, rfl⟩ := h.shape
  obtain ⟨c0, c1, c2, c3, c4, c5⟩ := h.boxed.cells
  have H2 := Lib.hid (SessAt.sess h.boxed)
  have H := Lib.hid h
  clear h
  have hqp : ((S.queue.length : Int) == (S.places : Int)) = false := by rw [beq_eq_false_iff_ne]; omega
  have Hf := Lib.hid hf
  clear hf
  obtain ⟨i0, hi, hz0, hz1, hz2⟩ := info_parts infoRow
  go_enter Try.func14, Try.ntmps14
  go_wp2_with fail
  ((refine (multi_any H2.out).mono ?_); rintro e w1 ⟨rfl, rfl⟩)
  go_wp2_with fail
  go_quiet (fail)
  have R : Hid (Reached w ((boxed w).drewN nq) b F S (.slice ao S.queue.length cp) bm D) := ⟨H.out.boxed.drewN nq, below_drewN (Below.refl _ _) nq⟩
  generalize (boxed w).drewN nq = wq at *
  clear c0 c1 c2 c3 c4 c5
  obtain ⟨c0, c1, c2, c3, c4, c5⟩ := R.out.at_.cells
  have f4 := R.out.at_.free 4
  have hblt : b < wq.heap.size := R.out.at_.lt b R.out.at_.own
  have hwlt : w.heap.size < wq.heap.size := by have := R.out.bel.size; rw [boxed_size] at this; omega
  have hbw : b ≠ w.heap.size := by omega
  have HB0 := Lib.hid (boxed_at R.out.bel)
  have HS := Lib.hid (hs.kept R.out.below)
  clear hs c0 c1 c2 c3 c5
  go_wp2_with fail
  obtain ⟨xs, hxl, hrw, hcs⟩ := R.out.at_.rows
  have hq := hrw.1
  rw [hxl] at hq
  have hap := R.out.at_.apart
  have hp := R.out.at_.places
  have h63 : S.queue.length + 1 ≤ maxLen := by have := Hf.out; unfold maxLen; omega
  have hby : (S.queue.length + 1) * 24 ≤ 140737488355328 := by have := Hf.out; omega
  have Hx := Lib.hid hxl
  clear hxl
  go_region_law
    (first
      | (go_simp; go_at_call 33; refine (clone_any bs _ _ ?_ hlen).mono ?_; (exact HS.out); rintro e wx ⟨cv, rfl, hrow, ⟨ca, cc, rfl⟩, bx⟩
         have ox := ownsRow_below (w := wq.drew) hq bx
         have hxb : b < wx.heap.size := Nat.lt_of_lt_of_le hblt bx.size
         have cx : wx.cell? ⟨b, 4, none⟩ = some (.slice ao S.queue.length cp) := (bx.cell (p := ⟨b, 4, none⟩) hblt).trans c4
         have fx : wx.frozen? ⟨b, 4, none⟩ = false := (bx.frozen (p := ⟨b, 4, none⟩) hblt).trans f4
         have ax : ∀ o, (wx.alloc o).cell? ⟨b, 4, none⟩ = some (.slice ao S.queue.length cp) := fun o => (((Below.refl _ _).alloc (Nat.le_refl _) o).cell (p := ⟨b, 4, none⟩) hxb).trans cx
         have zx : ∀ o, (wx.alloc o).frozen? ⟨b, 4, none⟩ = false := fun o => (((Below.refl _ _).alloc (Nat.le_refl _) o).frozen (p := ⟨b, 4, none⟩) hxb).trans fx)
      | (refine step_append_lies _ (by rfl) _ _ _ (by rfl) 0 23 i0 _ 1 24 Try.underlying22 hi hz0 hz1 hz2 rfl (by omega) (.slice ao S.queue.length cp) S.queue.length xs (by rfl) (ox.alloc _)
          ⟨wx.heap.size, 0, none⟩ 1 1 [.slice ca bs.length cc] (by rfl) (by rfl) (World.news_of_block (cs := #[.slice ca bs.length cc]) (t := 23) (fr := (0, 0)) (heap_alloc_new wx _)) (by simp [Value.oneCell'])
          (by omega) h63 hby (Nat.zero_le _) _ rfl ?_
         intro gg cap w5 hown5 hgrow hat hlt5
         have cy : w5.cell? ⟨b, 4, none⟩ = some (.slice ao S.queue.length cp) := by rw [hgrow.cell_far ⟨b, 4, none⟩ (by simp; omega) (Ne.symm hap)]; exact ax _
         have fy : w5.frozen? ⟨b, 4, none⟩ = false := by rw [hgrow.frozen_far ⟨b, 4, none⟩ (by simp; omega) (Ne.symm hap)]; exact zx _))
  all_goals
    have bx' : Below wq.heap.size wq wx := ⟨bx.os, bx.tape, bx.output, bx.size, bx.block⟩
    have hrow' : Row wx (fun k => wq.heap.size ≤ k) 9 (.slice ca bs.length cc) (bs.map Value.string) := hrow
    have P := Lib.hid (R.out.at_.pushed Hx.out hrw hcs Hf.out bx' hrow' hown5 hgrow (hat.imp id (fun e => by rw [e]; have := bx'.size; simp; omega)) hlt5)
    have hb5 : w5.heap[w.heap.size]? = wq.heap[w.heap.size]? := by
      rw [hgrow.block _ (by have := bx'.size; simp; omega) ?_, Below.heap_alloc _ _ _ (by have := bx'.size; omega), bx'.block _ hwlt]
      intro e
      obtain ⟨cur, hc⟩ := row_block hrw.1 e.symm
      rw [HB0.out] at hc; simp at hc
    have hw5 : w.heap.size < w5.heap.size := by have := bx'.size; have := hgrow.size; simp at this; omega
    have HB5 := Lib.hid (hb5.trans HB0.out)
    clear hcs hrow hrow' hown5 hq ox hgrow hat hrw hb5 ax zx cx fx cy fy c4 f4
    go_wp2_with fail
    ((with_reducible refine (simple_any _ _).mono ?_); rintro e w3 ⟨rfl, b3⟩)
    have hbx : w3.heap[w.heap.size]? = some (.cells #[.int .i64 0, .string ⟨#[]⟩, .int .i64 0, .slice none 0 0] 31 (0, 0)) := by
      rw [b3.block _ (by rw [heap_setCell_size]; exact hw5), Below.heap_setCell _ _ _ _ hbw.symm]
      exact HB5.out
    have HBX := Lib.hid hbx
    obtain ⟨k0, k1, k2, k3, z0⟩ := box_cells hbx
    clear hbx
    have B3 := Lib.hid b3
    clear b3
    have hn : ¬ F w.heap.size := fun hk => Nat.lt_irrefl _ (H.out.lt _ hk)
    go_wp2
    refine bodyPost_ret (v := replyV 1 ⟨#[81, 85, 69, 85, 69, 68]⟩) (reply_end rfl _ w.heap.size rfl Try.underlying31 (by kernel_rfl) HBX.out rfl _ _ _ _) rfl ⟨rfl, (fun k => F k ∨ (wq.heap.size ≤ k ∧ k < w5.heap.size)), ?_, ?_, ?_⟩
    · exact SessAt.sess ((P.out.1.below B3.out).reply (fun hk => hk.elim hn (fun h2 => by omega)) _ _ _ _)
    · exact fun k hk => hk.imp id (fun h2 => by have := h2.1; omega)
    · exact (((Wr.of_below R.out.below).trans P.out.2 (Grew.refl _ _)).trans (Wr.of_below B3.out) (Grew.refl _ _)).reply (Nat.le_refl _) _ _ _ _
end Go.Proofs.Ytflhcffpfiameaa
