/- The document's session: its block, the walks of its methods. -/
import Derived.Test.YtflhcffpfiameaaSMem2
import Derived.Test.YtflhcffpfiameaaSessAbortsW
namespace Go.Proofs.Ytflhcffpfiameaa
open Go.ChangeShapes Go.WideShapes Go.ChangeAt Go.RowKit Go.Maps
set_option linter.unusedVariables false

structure RSessAt (w : World) (b : Nat) (F : Nat → Prop) (S : SessM) (qv wv : Value) : Prop where
  lt : ∀ k, F k → k < w.heap.size
  own : F b
  block : w.heap[b]? = some (.cells #[.int .i64 S.places, .bool S.multi, qv, .bool S.refused, wv, .bool S.dirty] 64 (0, 0))
  rows : RowsR w F qv S.queue
  told : Row w F 9 wv ((sortK S.keys).map strV)
def RSess (w : World) (b : Nat) (F : Nat → Prop) (S : SessM) : Prop := ∃ qv wv, RSessAt w b F S qv wv
namespace RSessAt
variable {w w' : World} {b : Nat} {F G : Nat → Prop} {S S' : SessM} {qv wv : Value}
theorem kept (h : RSessAt w b F S qv wv) (hw : Wr G w w') (hFG : ∀ k, F k → ¬ G k) : RSessAt w' b F S qv wv :=
  { h with
    lt := fun k hk => Nat.lt_of_lt_of_le (h.lt k hk) hw.size
    block := (hw.block b (h.lt b h.own) (hFG b h.own)).trans h.block
    rows := h.rows.kept hw hFG
    told := h.told.kept hw hFG }
theorem below (h : RSessAt w b F S qv wv) (hw : Below w.heap.size w w') : RSessAt w' b F S qv wv := h.kept (G := fun _ => False) (Wr.of_below hw) (fun _ _ h => h)
theorem alloc (h : RSessAt w b F S qv wv) (o : Obj) : RSessAt (w.alloc o) b F S qv wv := h.below ((Below.refl _ _).alloc (Nat.le_refl _) _)
theorem store (h : RSessAt w b F S qv wv) {p : Addr} (hp : ¬ F p.block) (u : Value) : RSessAt (w.setCell p u) b F S qv wv :=
  h.kept (G := fun k => k = p.block) ⟨rfl, rfl, rfl, by simp [World.setCell], fun k hk hf => Below.heap_setCell _ _ _ _ hf⟩ (fun k hk e => hp (e ▸ hk))
theorem reply (h : RSessAt w b F S qv wv) {g : Nat} (hg : ¬ F g) (x y z u : Value) :
    RSessAt ((((w.setCell ⟨g, 0, none⟩ x).setCell ⟨g, 1, none⟩ y).setCell ⟨g, 2, none⟩ z).setCell ⟨g, 3, none⟩ u) b F S qv wv := (((h.store hg _).store hg _).store hg _).store hg _
theorem sess (h : RSessAt w b F S qv wv) : RSess w b F S := ⟨qv, wv, h⟩
theorem cells (h : RSessAt w b F S qv wv) : w.cell? ⟨b, 0, none⟩ = some (.int .i64 S.places) ∧ w.cell? ⟨b, 1, none⟩ = some (.bool S.multi) ∧ w.cell? ⟨b, 2, none⟩ = some qv ∧ w.cell? ⟨b, 3, none⟩ = some (.bool S.refused) ∧
    w.cell? ⟨b, 4, none⟩ = some wv ∧ w.cell? ⟨b, 5, none⟩ = some (.bool S.dirty) := by
  have hb := h.block
  refine ⟨?_, ?_, ?_, ?_, ?_, ?_⟩ <;> simp [World.cell?, hb]
theorem free (h : RSessAt w b F S qv wv) (i : Nat) : w.frozen? ⟨b, i, none⟩ = false := by
  have hb := h.block
  simp only [World.frozen?, hb]
  simp
theorem notb (h : RSessAt w b F S qv wv) {k : Nat} {cur : Array Value} {e : TypeId} (he : e = 23 ∨ e = 9) (hk : w.heap[k]? = some (.cells cur e (0, 0))) : k ≠ b := by
  rintro rfl
  rw [h.block] at hk
  simp only [Option.some.injEq, Obj.cells.injEq] at hk
  rcases he with he | he <;> (rw [he] at hk; simp at hk)
/-- Its own block is written. -/
theorem upd (h : RSessAt w b F S qv wv) (hq : S'.queue = S.queue) (hk : S'.keys = S.keys) (hb : w'.heap[b]? = some (.cells #[.int .i64 S'.places, .bool S'.multi, qv, .bool S'.refused, wv, .bool S'.dirty] 64 (0, 0)))
    (ho : ∀ k, k ≠ b → w'.heap[k]? = w.heap[k]?) (hs : w'.heap.size = w.heap.size) : RSessAt w' b F S' qv wv where
  lt := fun k hk => by rw [hs]; exact h.lt k hk
  own := h.own
  block := hb
  rows := by rw [hq]; exact h.rows.kept_by fun k cur e he hk => ho k (h.notb he hk)
  told := by rw [hk]; exact h.told.kept_by fun k cur hk => ho k (h.notb (.inr rfl) hk)
theorem setM (h : RSessAt w b F S qv wv) (m : Bool) : RSessAt (w.setCell ⟨b, 1, none⟩ (.bool m)) b F { S with multi := m } qv wv := h.upd rfl rfl (heap_setCell_same h.block) (fun k hk => Below.heap_setCell _ _ _ _ hk) (heap_setCell_size _ _ _)
theorem setR (h : RSessAt w b F S qv wv) (m : Bool) : RSessAt (w.setCell ⟨b, 3, none⟩ (.bool m)) b F { S with refused := m } qv wv := h.upd rfl rfl (heap_setCell_same h.block) (fun k hk => Below.heap_setCell _ _ _ _ hk) (heap_setCell_size _ _ _)
theorem setD (h : RSessAt w b F S qv wv) (m : Bool) : RSessAt (w.setCell ⟨b, 5, none⟩ (.bool m)) b F { S with dirty := m } qv wv := h.upd rfl rfl (heap_setCell_same h.block) (fun k hk => Below.heap_setCell _ _ _ _ hk) (heap_setCell_size _ _ _)
end RSessAt
theorem RSess.kept {w w' : World} {b : Nat} {F G : Nat → Prop} {S : SessM} (h : RSess w b F S) (hw : Wr G w w') (hFG : ∀ k, F k → ¬ G k) : RSess w' b F S := by
  obtain ⟨qv, wv, h⟩ := h; exact ⟨qv, wv, h.kept hw hFG⟩
theorem RSess.below {w w' : World} {b : Nat} {F : Nat → Prop} {S : SessM} (h : RSess w b F S) (hw : Below w.heap.size w w') : RSess w' b F S := by
  obtain ⟨qv, wv, h⟩ := h; exact ⟨qv, wv, h.below hw⟩
theorem RSess.lt {w : World} {b : Nat} {F : Nat → Prop} {S : SessM} (h : RSess w b F S) : ∀ k, F k → k < w.heap.size := by obtain ⟨qv, wv, h⟩ := h; exact h.lt
/-- A cell was written, the box was laid, and a call laid new blocks. -/
theorem box_set {w w1 : World} {p : Addr} {u : Value} (hb : Below ((w.setCell p u).alloc (.cells #[.int .i64 0, .string ⟨#[]⟩, .int .i64 0, .slice none 0 0] 31)).heap.size ((w.setCell p u).alloc (.cells #[.int .i64 0, .string ⟨#[]⟩, .int .i64 0, .slice none 0 0] 31)) w1) : w1.heap[w.heap.size]? = some (.cells #[.int .i64 0, .string ⟨#[]⟩, .int .i64 0, .slice none 0 0] 31 (0, 0)) :=
  box_there (heap_setCell_size _ _ _).symm hb
theorem rfail_any (s : ByteArray) (w : World) : Calls Try.prog 50 #[.string s] w fun e w' => e = .returned (replyV 2 s) ∧ Below w.heap.size w w' := by
  go_enter Try.func50, Try.ntmps50
  go_wp2
  exact bodyPost_ret (v := replyV 2 s) (by simp [results, Try.results50, go_sem]) rfl ⟨rfl, (Below.refl _ _).alloc (Nat.le_refl _) _⟩
theorem rok_any (s : ByteArray) (w : World) : Calls Try.prog 51 #[.string s] w fun e w' => e = .returned (replyV 1 s) ∧ Below w.heap.size w w' := by
  go_enter Try.func51, Try.ntmps51
  go_wp2
  exact bodyPost_ret (v := replyV 1 s) (by simp [results, Try.results51, go_sem]) rfl ⟨rfl, (Below.refl _ _).alloc (Nat.le_refl _) _⟩
def RNewPost (n : Nat) (w : World) (e : Ending) (w' : World) : Prop := ∃ b F, e = .returned (.tuple #[.pointer (some ⟨b, 0, none⟩), .int .i64 0]) ∧ RSess w' b F (.new n) ∧ (∀ k, F k → w.heap.size ≤ k) ∧ Below w.heap.size w w'
theorem sortK_nil : sortK [] = [] := by simp [sortK]
set_option maxHeartbeats 400000 in
theorem rnew_any (n : Nat) (h1 : 1 ≤ n) (h2 : n ≤ 1024) (w : World) : Calls Try.prog 18 #[.int .i64 n] w fun e w' => RNewPost n w e w' := by
  have hn1 : (1 : Int) ≤ (n : Int) := by omega
  have hn2 : (n : Int) ≤ 1024 := by omega
  go_enter Try.func18, Try.ntmps18
  go_wp2
  go_ret2
  refine ⟨w.heap.size, fun k => k = w.heap.size, rfl, ⟨.slice none 0 0, .slice none 0 0, ⟨fun k hk => by subst hk; simp, rfl, heap_alloc_new w _, RowsR.nil _ _, ?_⟩⟩, fun k hk => by omega, (Below.refl _ _).alloc (Nat.le_refl _) _⟩
  show Row _ _ _ _ ((sortK []).map strV)
  rw [sortK_nil]; exact Row.nil _ _ _
set_option maxHeartbeats 400000 in
theorem rnew_bad (n : Int) (h : n < 1 ∨ 1024 < n) (w : World) : Calls Try.prog 18 #[.int .i64 n] w fun e w' => e = .returned (.tuple #[.pointer none, .int .i64 230]) ∧ w = w' := by
  rcases h with h | h
  · go_enter Try.func18, Try.ntmps18
    go_wp2
    go_ret2
    exact ⟨rfl, rfl⟩
  · have h1 : ¬ n < 1 := by omega
    go_enter Try.func18, Try.ntmps18
    go_wp2
    go_ret2
    exact ⟨rfl, rfl⟩
set_option maxHeartbeats 400000 in
theorem new_bad (n : Int) (h : n < 1 ∨ 1024 < n) (w : World) : Calls Try.prog 8 #[.int .i64 n] w fun e w' => e = .returned (.tuple #[.pointer none, .int .i64 230]) ∧ w = w' := by
  rcases h with h | h
  · go_enter Try.func8, Try.ntmps8
    go_wp2
    go_ret2
    exact ⟨rfl, rfl⟩
  · have h1 : ¬ n < 1 := by omega
    go_enter Try.func8, Try.ntmps8
    go_wp2
    go_ret2
    exact ⟨rfl, rfl⟩
/-! ### MULTI -/
def SessM.begR (S : SessM) : Value := if S.multi = true then replyV 2 ⟨#[69, 82, 82, 32, 77, 85, 76, 84, 73, 32, 119, 105, 116, 104, 105, 110, 32, 77, 85, 76, 84, 73]⟩ else replyV 1 ⟨#[79, 75]⟩
def SessM.beg (S : SessM) : SessM := { S with multi := true }
theorem SessM.beg_same {S : SessM} (h : S.multi = true) : S.beg = S := by cases S; simp only at h; subst h; rfl
set_option maxHeartbeats 400000 in
theorem begin_any {w : World} {b : Nat} {F : Nat → Prop} {S : SessM} (h : Sess w b F S) :
    Calls Try.prog 12 #[.pointer (some ⟨b, 0, none⟩)] w fun e w' => e = .returned S.begR ∧ Sess w' b F S.beg ∧ Wr F w w' := by
  rcases hm : S.multi with _ | _
  · have e1 : S.begR = replyV 1 ⟨#[79, 75]⟩ := by unfold SessM.begR; rw [if_neg (by simp [hm])]
    rw [e1]
    exact begin_yes h hm
  · have e1 : S.begR = replyV 2 ⟨#[69, 82, 82, 32, 77, 85, 76, 84, 73, 32, 119, 105, 116, 104, 105, 110, 32, 77, 85, 76, 84, 73]⟩ := by unfold SessM.begR; rw [if_pos hm]
    rw [e1, SessM.beg_same hm]
    obtain ⟨qv, bm, D, h⟩ := h
    obtain ⟨c0, c1, c2, c3, c4, c5⟩ := (h.alloc (.cells #[.int .i64 0, .string ⟨#[]⟩, .int .i64 0, .slice none 0 0] 31)).cells
    have hlt := h.lt b h.own
    have H := Lib.hid h
    rw [hm] at c1
    clear h
    go_enter Try.func12, Try.ntmps12
    go_wp2_with fail
    ((with_reducible refine (fault_any _ _).mono ?_); rintro e w1 ⟨rfl, b1⟩)
    have HBX := Lib.hid (boxed_at b1)
    obtain ⟨k0, k1, k2, k3, z0⟩ := box_cells HBX.out
    have hn : ¬ F w.heap.size := fun hk => Nat.lt_irrefl _ (H.out.lt _ hk)
    go_wp2
    refine bodyPost_ret (reply_end rfl _ w.heap.size rfl Try.underlying31 (by kernel_rfl) HBX.out rfl _ _ _ _) rfl ⟨rfl, ?_, ?_⟩
    · exact SessAt.sess (((H.out.alloc _).below b1).reply hn _ _ _ _)
    · exact (((Wr.refl F w).alloc _).trans (Wr.of_below b1) (Grew.refl _ _)).reply (Nat.le_refl _) _ _ _ _
set_option maxHeartbeats 400000 in
theorem rbegin_any {w : World} {b : Nat} {F : Nat → Prop} {S : SessM} (h : RSess w b F S) :
    Calls Try.prog 35 #[.pointer (some ⟨b, 0, none⟩)] w fun e w' => e = .returned S.begR ∧ RSess w' b F S.beg ∧ Wr F w w' := by
  obtain ⟨qv, wv, h⟩ := h
  obtain ⟨c0, c1, c2, c3, c4, c5⟩ := (h.alloc (.cells #[.int .i64 0, .string ⟨#[]⟩, .int .i64 0, .slice none 0 0] 31)).cells
  have f1 := (h.alloc (.cells #[.int .i64 0, .string ⟨#[]⟩, .int .i64 0, .slice none 0 0] 31)).free 1
  have hlt := h.lt b h.own
  have H := Lib.hid h
  have hn : ¬ F w.heap.size := fun hk => Nat.lt_irrefl _ (H.out.lt _ hk)
  have hbw : b ≠ w.heap.size := by omega
  clear h
  rcases hm : S.multi with _ | _
  · have e1 : S.begR = replyV 1 ⟨#[79, 75]⟩ := by unfold SessM.begR; rw [if_neg (by simp [hm])]
    rw [e1]
    rw [hm] at c1
    go_enter Try.func35, Try.ntmps35
    go_wp2_with fail
    ((with_reducible refine (rok_any _ _).mono ?_); rintro e w1 ⟨rfl, b1⟩)
    have HBX := Lib.hid (box_set b1)
    obtain ⟨k0, k1, k2, k3, z0⟩ := box_cells HBX.out
    go_wp2
    refine bodyPost_ret (reply_end rfl _ w.heap.size rfl Try.underlying31 (by kernel_rfl) HBX.out rfl _ _ _ _) rfl ⟨rfl, ?_, ?_⟩
    · exact RSessAt.sess ((((H.out.setM true).alloc _).below b1).reply hn _ _ _ _)
    · exact ((((Wr.refl F w).setCell (p := ⟨b, 1, none⟩) H.out.own _).alloc _).trans (Wr.of_below b1) (Grew.refl _ _)).reply (Nat.le_refl _) _ _ _ _
  · have e1 : S.begR = replyV 2 ⟨#[69, 82, 82, 32, 77, 85, 76, 84, 73, 32, 119, 105, 116, 104, 105, 110, 32, 77, 85, 76, 84, 73]⟩ := by unfold SessM.begR; rw [if_pos hm]
    rw [e1, SessM.beg_same hm]
    rw [hm] at c1
    go_enter Try.func35, Try.ntmps35
    go_wp2_with fail
    ((with_reducible refine (rfail_any _ _).mono ?_); rintro e w1 ⟨rfl, b1⟩)
    have HBX := Lib.hid (boxed_at b1)
    obtain ⟨k0, k1, k2, k3, z0⟩ := box_cells HBX.out
    go_wp2
    refine bodyPost_ret (reply_end rfl _ w.heap.size rfl Try.underlying31 (by kernel_rfl) HBX.out rfl _ _ _ _) rfl ⟨rfl, ?_, ?_⟩
    · exact RSessAt.sess (((H.out.alloc _).below b1).reply hn _ _ _ _)
    · exact (((Wr.refl F w).alloc _).trans (Wr.of_below b1) (Grew.refl _ _)).reply (Nat.le_refl _) _ _ _ _
/-! ### a refusal -/
def SessM.ref (S : SessM) : SessM := { S with refused := S.refused || S.multi }
set_option maxHeartbeats 400000 in
theorem rrefuse_any {w : World} {b : Nat} {F : Nat → Prop} {S : SessM} (h : RSess w b F S) :
    Calls Try.prog 37 #[.pointer (some ⟨b, 0, none⟩)] w fun e w' => e = .returned (.tuple #[]) ∧ RSess w' b F S.ref ∧ Wr F w w' := by
  obtain ⟨qv, wv, h⟩ := h
  obtain ⟨c0, c1, c2, c3, c4, c5⟩ := h.cells
  have f3 := h.free 3
  have H := Lib.hid h
  clear h
  obtain ⟨places, multi, dirty, refused, queue, keys⟩ := S
  rcases refused with _ | _
  · go_enter Try.func37, Try.ntmps37
    go_wp2
    go_end0
    refine ⟨rfl, RSessAt.sess (H.out.setR multi), (Wr.refl _ _).setCell H.out.own _⟩
  · go_enter Try.func37, Try.ntmps37
    go_wp2
    go_end0
    refine ⟨rfl, RSessAt.sess (H.out.setR true), (Wr.refl _ _).setCell H.out.own _⟩
end Go.Proofs.Ytflhcffpfiameaa
