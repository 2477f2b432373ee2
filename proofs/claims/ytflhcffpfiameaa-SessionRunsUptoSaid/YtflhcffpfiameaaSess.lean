/- A session as its block reads; what the small methods do to it. -/
import Derived.Test.YtflhcffpfiameaaWr
import Derived.Test.YtflhcffpfiameaaShelf
import Derived.Shelf.SlMaps.Clone
import Derived.Laws.Rows
import Derived.RegionTactic
import Derived.BigQuiet
namespace Go.Proofs.Ytflhcffpfiameaa
open Go.ChangeShapes Go.WideShapes Go.ChangeAt Go.RowKit
set_option linter.unusedVariables false

structure SessM where
  places : Nat
  multi : Bool
  dirty : Bool
  refused : Bool
  queue : List (List (List UInt8))
  keys : List (List UInt8)
def SessM.new (p : Nat) : SessM := ⟨p, false, false, false, [], []⟩

def strV (l : List UInt8) : Value := .string (str l)
/-- A row of rows of texts. -/
def RowsR (w : World) (F : Nat → Prop) (v : Value) (q : List (List (List UInt8))) : Prop :=
  ∃ xs : List Value, xs.length = q.length ∧ Row w F 23 v xs ∧ ∀ (i : Nat) x r, xs[i]? = some x → q[i]? = some r → Row w F 9 x (r.map strV)
theorem RowsR.shape {w : World} {F : Nat → Prop} {v : Value} {q : List (List (List UInt8))} (h : RowsR w F v q) : ∃ ao cp, v = .slice ao q.length cp := by
  obtain ⟨xs, hl, hr, _⟩ := h
  obtain ⟨ao, cp, e⟩ := hr.shape
  exact ⟨ao, cp, by rw [e, hl]⟩
theorem RowsR.nil (w : World) (F : Nat → Prop) : RowsR w F (.slice none 0 0) [] := ⟨[], rfl, Row.nil w F _, fun i x r h _ => by simp at h⟩
theorem RowsR.kept {w w' : World} {F G : Nat → Prop} {v : Value} {q : List (List (List UInt8))} (h : RowsR w F v q) (hw : Wr G w w') (hFG : ∀ k, F k → ¬ G k) : RowsR w' F v q := by
  obtain ⟨xs, hl, hr, hc⟩ := h
  exact ⟨xs, hl, hr.kept hw hFG, fun i x r h1 h2 => (hc i x r h1 h2).kept hw hFG⟩
theorem RowsR.mono {w : World} {F G : Nat → Prop} {v : Value} {q : List (List (List UInt8))} (h : RowsR w F v q) (hFG : ∀ k, F k → G k) : RowsR w G v q := by
  obtain ⟨xs, hl, hr, hc⟩ := h
  exact ⟨xs, hl, hr.mono hFG, fun i x r h1 h2 => (hc i x r h1 h2).mono hFG⟩
/-- Blocks of other types may be written. -/
theorem RowsR.kept_by {w w' : World} {F : Nat → Prop} {v : Value} {q : List (List (List UInt8))} (h : RowsR w F v q)
    (hw : ∀ (k : Nat) (cur : Array Value) (e : TypeId), e = 23 ∨ e = 9 → w.heap[k]? = some (.cells cur e (0, 0)) → w'.heap[k]? = w.heap[k]?) : RowsR w' F v q := by
  obtain ⟨xs, hl, hr, hc⟩ := h
  exact ⟨xs, hl, hr.kept_by fun k cur => hw k cur _ (.inl rfl), fun i x r h1 h2 => (hc i x r h1 h2).kept_by fun k cur => hw k cur _ (.inr rfl)⟩

/-- The session's block and what it leads to. -/
structure SessAt (w : World) (b : Nat) (F : Nat → Prop) (S : SessM) (qv : Value) (bm : Nat) (D : DataW Unit) : Prop where
  lt : ∀ k, F k → k < w.heap.size
  own : F b
  places : S.places ≤ 1024
  room : S.queue.length ≤ S.places
  few : S.keys.length ≤ 1024
  lens : ∀ k ∈ S.keys, k.length ≤ maxLen
  nodup : S.keys.Nodup
  block : w.heap[b]? = some (.cells #[.int .i64 S.places, .bool S.multi, .bool S.dirty, .bool S.refused, qv, .map (some bm)] 59 (0, 0))
  ownM : F bm
  map : w.ownsMap Try.prog 9 (plainElem Try.prog 3) bm S.keys.length D
  keys : KeysAre D S.keys
  rows : RowsR w F qv S.queue
def Sess (w : World) (b : Nat) (F : Nat → Prop) (S : SessM) : Prop := ∃ qv bm D, SessAt w b F S qv bm D
theorem Sess.lt {w : World} {b : Nat} {F : Nat → Prop} {S : SessM} (h : Sess w b F S) : ∀ k, F k → k < w.heap.size := by obtain ⟨_, _, _, h⟩ := h; exact h.lt
theorem Sess.own {w : World} {b : Nat} {F : Nat → Prop} {S : SessM} (h : Sess w b F S) : F b := by obtain ⟨_, _, _, h⟩ := h; exact h.own
theorem SessAt.kept {w w' : World} {b : Nat} {F G : Nat → Prop} {S : SessM} {qv : Value} {bm : Nat} {D : DataW Unit} (h : SessAt w b F S qv bm D) (hw : Wr G w w') (hFG : ∀ k, F k → ¬ G k) : SessAt w' b F S qv bm D :=
  { h with
    lt := fun k hk => Nat.lt_of_lt_of_le (h.lt k hk) hw.size
    block := (hw.block b (h.lt b h.own) (hFG b h.own)).trans h.block
    map := ownsMap_wr h.map hw (hFG bm h.ownM)
    rows := h.rows.kept hw hFG }
theorem Sess.kept {w w' : World} {b : Nat} {F G : Nat → Prop} {S : SessM} (h : Sess w b F S) (hw : Wr G w w') (hFG : ∀ k, F k → ¬ G k) : Sess w' b F S := by
  obtain ⟨qv, bm, D, h⟩ := h; exact ⟨qv, bm, D, h.kept hw hFG⟩
/-- What was laid behind it does not touch it. -/
theorem Sess.below {w w' : World} {b : Nat} {F : Nat → Prop} {S : SessM} (h : Sess w b F S) (hw : Below w.heap.size w w') : Sess w' b F S :=
  h.kept (G := fun _ => False) (Wr.of_below hw) (fun _ _ h => h)
theorem SessAt.below {w w' : World} {b : Nat} {F : Nat → Prop} {S : SessM} {qv : Value} {bm : Nat} {D : DataW Unit} (h : SessAt w b F S qv bm D) (hw : Below w.heap.size w w') : SessAt w' b F S qv bm D :=
  h.kept (G := fun _ => False) (Wr.of_below hw) (fun _ _ h => h)
theorem SessAt.cells {w : World} {b : Nat} {F : Nat → Prop} {S : SessM} {qv : Value} {bm : Nat} {D : DataW Unit} (h : SessAt w b F S qv bm D) :
    w.cell? ⟨b, 0, none⟩ = some (.int .i64 S.places) ∧ w.cell? ⟨b, 1, none⟩ = some (.bool S.multi) ∧ w.cell? ⟨b, 2, none⟩ = some (.bool S.dirty) ∧ w.cell? ⟨b, 3, none⟩ = some (.bool S.refused) ∧
    w.cell? ⟨b, 4, none⟩ = some qv ∧ w.cell? ⟨b, 5, none⟩ = some (.map (some bm)) := by
  have hb := h.block
  refine ⟨?_, ?_, ?_, ?_, ?_, ?_⟩ <;> simp [World.cell?, hb]
theorem SessAt.free {w : World} {b : Nat} {F : Nat → Prop} {S : SessM} {qv : Value} {bm : Nat} {D : DataW Unit} (h : SessAt w b F S qv bm D) (i : Nat) : w.frozen? ⟨b, i, none⟩ = false := by
  have hb := h.block
  simp only [World.frozen?, hb]
  simp
theorem SessAt.shape {w : World} {b : Nat} {F : Nat → Prop} {S : SessM} {qv : Value} {bm : Nat} {D : DataW Unit} (h : SessAt w b F S qv bm D) : ∃ ao cp, qv = .slice ao S.queue.length cp := h.rows.shape
/-- Its own block is written: flags turn. -/
theorem SessAt.flags {w w' : World} {b : Nat} {F : Nat → Prop} {S : SessM} {qv : Value} {bm : Nat} {D : DataW Unit} (h : SessAt w b F S qv bm D) (m d r : Bool)
    (hb : w'.heap[b]? = some (.cells #[.int .i64 S.places, .bool m, .bool d, .bool r, qv, .map (some bm)] 59 (0, 0))) (ho : ∀ k, k ≠ b → w'.heap[k]? = w.heap[k]?) (hs : w'.heap.size = w.heap.size) :
    SessAt w' b F { S with multi := m, dirty := d, refused := r } qv bm D := by
  have hbm : bm ≠ b := fun e => ownsMap_notCells (e ▸ h.map) h.block rfl
  refine { h with lt := fun k hk => by rw [hs]; exact h.lt k hk, block := hb, map := ?_, rows := ?_ }
  · obtain ⟨es, clock, e, r⟩ := h.map
    exact ⟨es, clock, (ho bm hbm).trans e, r⟩
  · refine h.rows.kept_by fun k cur e he hk => ho k ?_
    rintro rfl
    rw [h.block] at hk
    simp only [Option.some.injEq, Obj.cells.injEq] at hk
    rcases he with he | he <;> (rw [he] at hk; simp at hk)
theorem SessAt.store {w : World} {b : Nat} {F : Nat → Prop} {S : SessM} {qv : Value} {bm : Nat} {D : DataW Unit} (h : SessAt w b F S qv bm D) {p : Addr} (hp : ¬ F p.block) (u : Value) : SessAt (w.setCell p u) b F S qv bm D :=
  h.kept (G := fun k => k = p.block) ⟨rfl, rfl, rfl, by simp [World.setCell], fun k hk hf => Below.heap_setCell _ _ _ _ hf⟩ (fun k hk e => hp (e ▸ hk))
theorem SessAt.reply {w : World} {b : Nat} {F : Nat → Prop} {S : SessM} {qv : Value} {bm : Nat} {D : DataW Unit} (h : SessAt w b F S qv bm D) {g : Nat} (hg : ¬ F g) (x y z u : Value) :
    SessAt ((((w.setCell ⟨g, 0, none⟩ x).setCell ⟨g, 1, none⟩ y).setCell ⟨g, 2, none⟩ z).setCell ⟨g, 3, none⟩ u) b F S qv bm D := (((h.store hg _).store hg _).store hg _).store hg _
theorem Wr.setNew {F : Nat → Prop} {a w : World} (h : Wr F a w) {p : Addr} (hp : a.heap.size ≤ p.block) (u : Value) : Wr F a (w.setCell p u) :=
  ⟨h.os, h.tape, h.output, by simpa [World.setCell] using h.size, fun k hk hf => (Below.heap_setCell _ _ _ _ (by omega)).trans (h.block k hk hf)⟩
theorem Wr.reply {F : Nat → Prop} {a w : World} (h : Wr F a w) {g : Nat} (hg : a.heap.size ≤ g) (x y z u : Value) :
    Wr F a ((((w.setCell ⟨g, 0, none⟩ x).setCell ⟨g, 1, none⟩ y).setCell ⟨g, 2, none⟩ z).setCell ⟨g, 3, none⟩ u) := (((h.setNew hg _).setNew hg _).setNew hg _).setNew hg _
theorem heap_setCell_same {w : World} {b i : Nat} {v : Value} {c : Array Value} {e : TypeId} {fz : Nat × Nat} (h : w.heap[b]? = some (.cells c e fz)) : (w.setCell ⟨b, i, none⟩ v).heap[b]? = some (.cells (c.setIfInBounds i v) e fz) := by
  simp [World.setCell, Array.getElem?_modify, h]
theorem heap_setCell_size (w : World) (a : Addr) (v : Value) : (w.setCell a v).heap.size = w.heap.size := by simp [World.setCell]

theorem SessAt.setM {w : World} {b : Nat} {F : Nat → Prop} {S : SessM} {qv : Value} {bm : Nat} {D : DataW Unit} (h : SessAt w b F S qv bm D) (m : Bool) : SessAt (w.setCell ⟨b, 1, none⟩ (.bool m)) b F { S with multi := m } qv bm D :=
  h.flags m S.dirty S.refused (heap_setCell_same h.block) (fun k hk => Below.heap_setCell _ _ _ _ hk) (heap_setCell_size _ _ _)
theorem SessAt.setD {w : World} {b : Nat} {F : Nat → Prop} {S : SessM} {qv : Value} {bm : Nat} {D : DataW Unit} (h : SessAt w b F S qv bm D) (d : Bool) : SessAt (w.setCell ⟨b, 2, none⟩ (.bool d)) b F { S with dirty := d } qv bm D :=
  h.flags S.multi d S.refused (heap_setCell_same h.block) (fun k hk => Below.heap_setCell _ _ _ _ hk) (heap_setCell_size _ _ _)
theorem SessAt.setR {w : World} {b : Nat} {F : Nat → Prop} {S : SessM} {qv : Value} {bm : Nat} {D : DataW Unit} (h : SessAt w b F S qv bm D) (r : Bool) : SessAt (w.setCell ⟨b, 3, none⟩ (.bool r)) b F { S with refused := r } qv bm D :=
  h.flags S.multi S.dirty r (heap_setCell_same h.block) (fun k hk => Below.heap_setCell _ _ _ _ hk) (heap_setCell_size _ _ _)
theorem SessAt.alloc {w : World} {b : Nat} {F : Nat → Prop} {S : SessM} {qv : Value} {bm : Nat} {D : DataW Unit} (h : SessAt w b F S qv bm D) (o : Obj) : SessAt (w.alloc o) b F S qv bm D := h.below ((Below.refl _ _).alloc (Nat.le_refl _) _)

abbrev replyV (kind : Int) (t : ByteArray) : Value := .agg #[.int .i64 kind, .string t, .int .i64 0, .slice none 0 0]

section
variable {P : Program}
theorem run_loadVar_four (w : World) (g : Nat) (ty : TypeId) (x y z u : Value) (fs : Array Field) (hu : P.underlying ty = some (.struct fs)) (hi : (P.info? ty).map (·.size) = some 4)
    (h0 : w.cell? ⟨g, 0, none⟩ = some x) (h1 : w.cell? ⟨g, 1, none⟩ = some y) (h2 : w.cell? ⟨g, 2, none⟩ = some z) (h3 : w.cell? ⟨g, 3, none⟩ = some u) : (loadVar ty ⟨g, 0, none⟩).run P w = .ok (.agg #[x, y, z, u]) w := by
  have hl : (loadCells ⟨g, 0, none⟩ 4).run P w = .ok #[x, y, z, u] w :=
    run_loadCells_list (P := P) w ⟨g, 0, none⟩ [x, y, z, u] (fun j v hv => by
      have hadd : (⟨g, 0, none⟩ : Addr).add j = ⟨g, j, none⟩ := by unfold Addr.add; split <;> simp_all
      rw [hadd]
      rcases j with _ | _ | _ | _ | j
      · simp at hv; subst hv; exact h0
      · simp at hv; subst hv; exact h1
      · simp at hv; subst hv; exact h2
      · simp at hv; subst hv; exact h3
      · simp at hv)
  cases hq : P.info? ty with
  | none => simp [hq] at hi
  | some i =>
    have hs : i.size = 4 := by simpa [hq] using hi
    have hagg : (isAgg ty).run P w = .ok true w := by
      unfold isAgg
      rw [Sem.run_bind, run_underlying hu w]
      simp
    simp [loadVar, Sem.run_bind, hagg, sizeOf, typeInfo, hq, hs, hl]
theorem reply_end {fn : Func} {p : Tmp} {ty : TypeId} (hr : fn.results = #[.cell p ty]) (tmps : Array Value) (g : Nat) (hp : tmps.getD p undef = .pointer (some ⟨g, 0, none⟩)) {fs : Array Field} (hu : P.underlying ty = some (.struct fs)) (hi : (P.info? ty).map (·.size) = some 4)
    {w1 : World} {c : Array Value} {e : TypeId} {fz : Nat × Nat} (hg : w1.heap[g]? = some (.cells c e fz)) (hc : c.size = 4) (x y z u : Value) :
    (results fn tmps).run P ((((w1.setCell ⟨g, 0, none⟩ x).setCell ⟨g, 1, none⟩ y).setCell ⟨g, 2, none⟩ z).setCell ⟨g, 3, none⟩ u) = .ok (.agg #[x, y, z, u]) ((((w1.setCell ⟨g, 0, none⟩ x).setCell ⟨g, 1, none⟩ y).setCell ⟨g, 2, none⟩ z).setCell ⟨g, 3, none⟩ u) := by
  have hb := heap_setCell_same (i := 3) (v := u) (heap_setCell_same (i := 2) (v := z) (heap_setCell_same (i := 1) (v := y) (heap_setCell_same (i := 0) (v := x) hg)))
  generalize ((((w1.setCell ⟨g, 0, none⟩ x).setCell ⟨g, 1, none⟩ y).setCell ⟨g, 2, none⟩ z).setCell ⟨g, 3, none⟩ u) = W at hb
  have hl : (loadVar ty ⟨g, 0, none⟩).run P W = .ok (.agg #[x, y, z, u]) W := by
    refine run_loadVar_four W g ty x y z u fs hu hi ?_ ?_ ?_ ?_ <;> simp [World.cell?, hb, hc]
  have hp' : tmps[p]?.getD undef = .pointer (some ⟨g, 0, none⟩) := by simpa using hp
  simp [results, hr, hp', asAddr, hl]
end
/-- The reply's box, laid in w0, where later worlds kept it. -/
theorem box_there {w0 w1 : World} {g : Nat} {c : Array Value} {e : TypeId} (hg : g = w0.heap.size) (hb : Below (w0.alloc (.cells c e)).heap.size (w0.alloc (.cells c e)) w1) : w1.heap[g]? = some (.cells c e (0, 0)) := by
  subst hg
  rw [hb.block _ (by simp)]
  exact heap_alloc_new w0 _

set_option maxHeartbeats 400000 in
theorem multi_any {w : World} {b : Nat} {F : Nat → Prop} {S : SessM} (h : Sess w b F S) :
    Calls Try.prog 17 #[.pointer (some ⟨b, 0, none⟩)] w fun e w' => e = .returned (.bool S.multi) ∧ w = w' := by
  obtain ⟨qv, bm, D, h⟩ := h
  obtain ⟨c0, c1, c2, c3, c4, c5⟩ := h.cells
  go_enter Try.func17, Try.ntmps17
  go_wp2
  go_ret
  exact ⟨rfl, rfl⟩
end Go.Proofs.Ytflhcffpfiameaa
