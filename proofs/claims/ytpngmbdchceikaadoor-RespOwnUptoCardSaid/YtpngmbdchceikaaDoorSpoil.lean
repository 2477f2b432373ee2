/- spoil: it writes its reply's blocks and new ones alone. -/
import Derived.Test.YtpngmbdchceikaaDoorOwn
namespace Go.Proofs.YtpngmbdchceikaaDoor
open Go.ChangeShapes Go.WideShapes Go.ChangeAt Go.RowKit
open Pl (R Rd)
set_option linter.unusedVariables false

/-- w' is w with new blocks and writes to blocks of F alone. -/
structure Wr (F : Nat → Prop) (w w' : World) : Prop where
  os : w'.os = w.os
  tape : w'.tape = w.tape
  output : w'.output = w.output
  size : w.heap.size ≤ w'.heap.size
  block : ∀ k, k < w.heap.size → ¬ F k → w'.heap[k]? = w.heap[k]?
theorem Wr.refl (F : Nat → Prop) (w : World) : Wr F w w := ⟨rfl, rfl, rfl, Nat.le_refl _, fun _ _ _ => rfl⟩
theorem Wr.trans {a b c : World} {F G : Nat → Prop} (h : Wr F a b) (k : Wr G b c) (hg : ∀ i, G i → i < a.heap.size → F i) : Wr F a c :=
  ⟨k.os.trans h.os, k.tape.trans h.tape, k.output.trans h.output, Nat.le_trans h.size k.size, fun i hi hf => (k.block i (Nat.lt_of_lt_of_le hi h.size) (fun e => hf (hg i e hi))).trans (h.block i hi hf)⟩
theorem Wr.of_below {F : Nat → Prop} {w w' : World} (h : Below w.heap.size w w') : Wr F w w' := ⟨h.os, h.tape, h.output, h.size, fun k hk _ => h.block k hk⟩
theorem Wr.below {F : Nat → Prop} {w w' : World} (h : Wr F w w') {B : Nat} (hF : ∀ k, F k → B ≤ k) (hB : B ≤ w.heap.size) : Below B w w' := ⟨h.os, h.tape, h.output, h.size, fun k hk => h.block k (by omega) fun e => by have := hF k e; omega⟩
theorem Wr.alloc {F : Nat → Prop} {a w : World} (h : Wr F a w) (o : Obj) : Wr F a (w.alloc o) := h.trans (Wr.of_below (F := F) ((Below.refl _ _).alloc (Nat.le_refl _) o)) fun _ h _ => h
theorem Wr.set {F : Nat → Prop} {a w : World} (h : Wr F a w) {p : Addr} (hp : F p.block ∨ a.heap.size ≤ p.block) (u : Value) : Wr F a (w.setCell p u) :=
  ⟨h.os, h.tape, h.output, by have := h.size; simpa [World.setCell] using this, fun k hk hf => (heap_setCell_other w p k u (by intro e; subst e; rcases hp with hp | hp; exact hf hp; omega)).trans (h.block k hk hf)⟩
theorem Wr.grown {F : Nat → Prop} {a w w' : World} {row : Option Nat} (h : Wr F a w) (hg : w.grownBy w' row) (hr : ∀ k, row = some k → F k ∨ a.heap.size ≤ k) : Wr F a w' :=
  ⟨hg.os.trans h.os, hg.tape.trans h.tape, hg.output.trans h.output, Nat.le_trans h.size hg.size, fun k hk hf => (hg.block k (Nat.lt_of_lt_of_le hk h.size) (fun e => by
    rcases hr k e.symm with h1 | h1
    · exact hf h1
    · omega)).trans (h.block k hk hf)⟩
theorem ORow.wr {w w' : World} {F G : Nat → Prop} {v : Value} {l : List R} (h : ORow w F v l) (hw : Wr G w w') (hd : ∀ b, F b → ¬ G b) : ORow w' F v l := h.kept fun b h1 h2 => hw.block b h2 (hd b h1)
theorem LIs.wr {w w' : World} {F G : Nat → Prop} {v : Value} {l : List R} (h : LIs F w v l) (hw : Wr G w w') (hd : ∀ b, F b → ¬ G b) : LIs F w' v l := h.kept hw.size fun b h1 h2 => hw.block b h2 (hd b h1)
theorem Blk4.wr {w w' : World} {G : Nat → Prop} {b : Nat} {x y z u : Value} (h : Blk4 w b x y z u) (hw : Wr G w w') (hd : ¬ G b) : Blk4 w' b x y z u := h.kept (hw.block b h.lt hd)
/-- A row, whatever it holds, that may be appended to. -/
def AnyRow (w : World) (G : Nat → Prop) (v : Value) (n : Nat) : Prop := ∃ xs, w.ownsRow 0 24 4 v n xs ∧ ∀ g, v.ownBlock = some g → G g
section
variable {rest : List Oper} {ops : Array Oper} {o : Oper} {a : Act} {K : Act → World → Prop} {Q : Exit → Act → World → Prop}
theorem wp_append_any (w : World) (s x : Operand) (ho : o.op = .call { callee := .builtin .append, args := #[s, x], argTypes := #[22, 22] })
    (G : Nat → Prop) (w0 : World) (hG : ∀ b, w0.heap.size ≤ b → G b) (F : Nat → Prop) (hw : Wr F w0 w) (hGF : ∀ b, G b → F b ∨ w0.heap.size ≤ b) (v : Value) (n : Nat) (hs : a.eval s = v) (hrow : AnyRow w G v n) (k : Int)
    (hx : a.eval x = .slice (some ⟨w.heap.size, 0, none⟩) 1 1) (hlen : n ≤ 1073741900)
    (h : ∀ v' w', AnyRow w' G v' (n + 1) → Wr F w0 w' → K (a.put o.dst v') w') :
    o.wp Tryd.prog a (w.alloc (.cells #[.int .i64 k, .string ⟨#[]⟩, .int .i64 0, .slice none 0 0] 24)) K Q := by
  obtain ⟨i, hi, hz, hsz, hby⟩ := info_parts infoR
  obtain ⟨xs, hown, hF⟩ := hrow
  have hadd : ∀ j, (⟨w.heap.size, 0, none⟩ : Addr).add j = ⟨w.heap.size, j, none⟩ := fun j => by unfold Addr.add; split <;> simp_all
  obtain ⟨v', w', hr, h2, h3, h4, h5⟩ := run_append_own_at (P := Tryd.prog) (w.alloc (.cells #[.int .i64 k, .string ⟨#[]⟩, .int .i64 0, .slice none 0 0] 24)) 0 22 o.type 24 i _ 4 56 Tryd.underlying22 hi hz hsz hby rfl (by omega) v _ _ (World.ownsRow.alloc hown _) ⟨w.heap.size, 0, none⟩ 1 1 [.int .i64 k, .string ⟨#[]⟩, .int .i64 0, .slice none 0 0] rfl
    (fun j y hj => by
      rw [hadd]
      rcases j with _ | _ | _ | _ | j
      · simp at hj; subst hj; exact World.cell?_alloc_mark _ _ _ _ _
      · simp at hj; subst hj; exact World.cell?_alloc_mark _ _ _ _ _
      · simp at hj; subst hj; exact World.cell?_alloc_mark _ _ _ _ _
      · simp at hj; subst hj; exact World.cell?_alloc_mark _ _ _ _ _
      · simp at hj) (by simp; exact ⟨rfl, rfl, rfl, rfl⟩) (by unfold maxLen; omega) (by omega) (by omega)
  have hg2 : w.grownBy w' v.ownBlock := World.grownBy.trans (World.grownBy_alloc w _ _) h3
  unfold Oper.wp execOp
  simp only [ho, resolve, invoke, builtin, Sem.run_bind, Sem.run_pure, Result.andThen_ok, List.map_toArray, List.map_cons, List.map_nil, hs, hx, hr]
  refine h v' w' ⟨_, h2, fun g hg => ?_⟩ (hw.grown hg2 fun g hg => hGF g (hF g hg))
  rcases h5 with e | e
  · rw [e] at hg; exact hF g hg
  · rw [e] at hg; cases hg
    exact hG _ (by have := hw.size; simp; omega)
theorem wpList_append_any (w : World) (hgd : o.guard = none) (s x : Operand) (ho : o.op = .call { callee := .builtin .append, args := #[s, x], argTypes := #[22, 22] })
    (G : Nat → Prop) (w0 : World) (hG : ∀ b, w0.heap.size ≤ b → G b) (F : Nat → Prop) (hw : Wr F w0 w) (hGF : ∀ b, G b → F b ∨ w0.heap.size ≤ b) (v : Value) (n : Nat) (hs : a.eval s = v) (hrow : AnyRow w G v n) (k : Int)
    (hx : a.eval x = .slice (some ⟨w.heap.size, 0, none⟩) 1 1) (hlen : n ≤ 1073741900)
    (h : ∀ v' w', AnyRow w' G v' (n + 1) → Wr F w0 w' → wpList Tryd.prog ops Q rest (a.put o.dst v') w') :
    wpList Tryd.prog ops Q (o :: rest) a (w.alloc (.cells #[.int .i64 k, .string ⟨#[]⟩, .int .i64 0, .slice none 0 0] 24)) :=
  wpList_plain hgd fun _ hK => wp_append_any w s x ho G w0 hG F hw hGF v n hs hrow k hx hlen fun v' w' a1 a2 => hK _ _ (h v' w' a1 a2)
end
theorem AnyRow.shape {w : World} {G : Nat → Prop} {v : Value} {n : Nat} (h : AnyRow w G v n) : ∃ ao cp, v = .slice ao n cp := by
  obtain ⟨xs, h, _⟩ := h
  rcases h.2 with ⟨h1, h2⟩ | ⟨g, cap, cur, h1, _⟩
  · exact ⟨none, 0, by rw [h1, h2]⟩
  · exact ⟨_, _, h1⟩
def SpoilOk (r : R) : Prop := ∀ (lv : Value) (F : Nat → Prop) (w : World), OkR r → ORow w F lv r.l → Calls Tryd.prog 27 #[rv r lv] w fun e w' => e = .returned (.tuple #[]) ∧ Wr F w w'
/-- A row of which the first j elements hold whatever they hold. -/
structure Half (w : World) (Fs : Nat → Nat → Prop) (g cap : Nat) (ps : List (R × Value)) (j : Nat) : Prop where
  own : ∃ xs, w.ownsRow 0 24 4 (.slice (some ⟨g, 0, none⟩) ps.length cap) ps.length xs ∧ ∀ i, j * 4 ≤ i → xs[i]? = (cellsR ps)[i]?
  el : ∀ i p, j ≤ i → ps[i]? = some p → ORow w (Fs i) p.2 p.1.l
theorem Half.lt {w : World} {Fs : Nat → Nat → Prop} {g cap : Nat} {ps : List (R × Value)} {j : Nat} (h : Half w Fs g cap ps j) : g < w.heap.size := by
  obtain ⟨xs, h1, _⟩ := h.own
  exact (h1.lt g (by simp [Value.ownBlock])).2
theorem Half.at {w : World} {Fs : Nat → Nat → Prop} {g cap : Nat} {ps : List (R × Value)} {j i : Nat} (h : Half w Fs g cap ps j) (hi : j ≤ i) {p : R × Value} (hp : ps[i]? = some p) :
    w.cell? ⟨g, i * 4, none⟩ = some (.int .i64 p.1.k) ∧ w.cell? ⟨g, i * 4 + 1, none⟩ = some (.string (str p.1.t)) ∧ w.cell? ⟨g, i * 4 + 2, none⟩ = some (.int .i64 p.1.n) ∧ w.cell? ⟨g, i * 4 + 3, none⟩ = some p.2 := by
  obtain ⟨xs, h1, h2⟩ := h.own
  have hl : i < ps.length := (List.getElem?_eq_some_iff.1 hp).1
  obtain ⟨a0, a1, a2, a3⟩ := cellsR_get ps hp
  have hc : ∀ k, k < 4 → w.cell? ⟨g, i * 4 + k, none⟩ = (cellsR ps)[i * 4 + k]? := fun k hk => (World.ownsRow.cellAt h1 _ (by omega)).trans (h2 _ (by omega))
  exact ⟨(hc 0 (by omega)).trans a0, (hc 1 (by omega)).trans a1, (hc 2 (by omega)).trans a2, (hc 3 (by omega)).trans a3⟩
theorem Half.got {w : World} {Fs : Nat → Nat → Prop} {g cap : Nat} {ps : List (R × Value)} {j : Nat} (h : Half w Fs g cap ps j) {i : Nat} (hi : i < ps.length * 4) : ∃ u, w.cell? ⟨g, i, none⟩ = some u := by
  obtain ⟨xs, h1, _⟩ := h.own
  have hl : xs.length = ps.length * 4 := h1.1
  exact ⟨xs[i]'(by omega), (World.ownsRow.cellAt h1 i (by omega)).trans (List.getElem?_eq_getElem (by omega))⟩
theorem Half.free {w : World} {Fs : Nat → Nat → Prop} {g cap : Nat} {ps : List (R × Value)} {j : Nat} (h : Half w Fs g cap ps j) (i : Nat) : w.frozen? ⟨g, i, none⟩ = false := by
  obtain ⟨xs, h1, _⟩ := h.own
  exact World.ownsRow.frozenAt h1 i
theorem Half.kept {w w' : World} {Fs : Nat → Nat → Prop} {g cap : Nat} {ps : List (R × Value)} {j : Nat} (h : Half w Fs g cap ps j) (hb : Below w.heap.size w w') : Half w' Fs g cap ps j := by
  have hg := h.lt
  obtain ⟨xs, h1, h2⟩ := h.own
  exact ⟨⟨xs, owns_kept h1 fun k hk => hb.block k (h1.lt k hk).2, h2⟩, fun i p hi hp => (h.el i p hi hp).later hb⟩
theorem Half.set_off {w : World} {Fs : Nat → Nat → Prop} {g cap : Nat} {ps : List (R × Value)} {j : Nat} (h : Half w Fs g cap ps j) {p : Addr} (h1 : g ≠ p.block) (h2 : ∀ i, ¬ Fs i p.block) (u : Value) : Half (w.setCell p u) Fs g cap ps j := by
  obtain ⟨xs, h3, h4⟩ := h.own
  exact ⟨⟨xs, owns_kept h3 fun k hk => heap_setCell_other _ _ _ _ (by simp [Value.ownBlock] at hk; omega), h4⟩, fun i q hi hq => (h.el i q hi hq).kept fun b hb _ => heap_setCell_other _ _ _ _ fun e => h2 i (e ▸ hb)⟩
theorem Half.wr {w w' : World} {Fs : Nat → Nat → Prop} {g cap : Nat} {ps : List (R × Value)} {j : Nat} (h : Half w Fs g cap ps j) (hw : Wr (Fs j) w w') (hsub : ∀ i b, Fs i b → b ≠ g) (hdis : ∀ i k b, Fs i b → Fs k b → i = k) : Half w' Fs g cap ps (j + 1) := by
  have hg := h.lt
  obtain ⟨xs, h1, h2⟩ := h.own
  refine ⟨⟨xs, owns_kept h1 fun k hk => ?_, fun i hi => h2 i (by omega)⟩, fun i p hi hp => (h.el i p (by omega) hp).wr hw fun b hb hb2 => ?_⟩
  · simp [Value.ownBlock] at hk
    subst hk
    exact hw.block _ hg fun e => hsub _ _ e rfl
  · have := hdis _ _ _ hb hb2; omega
theorem Half.stored {w : World} {Fs : Nat → Nat → Prop} {g cap : Nat} {ps : List (R × Value)} {j : Nat} (h : Half w Fs g cap ps (j + 1)) (hsub : ∀ i b, Fs i b → b ≠ g) (i : Nat) (hi : i < j * 4 + 4) (u : Value) : Half (w.setCell ⟨g, i, none⟩ u) Fs g cap ps (j + 1) := by
  obtain ⟨xs, h1, h2⟩ := h.own
  refine ⟨⟨xs.set i u, (World.ownsRow.stored h1 i u).1, fun k hk => ?_⟩, fun k p hk hp => (h.el k p hk hp).kept fun b hb _ => heap_setCell_other _ _ _ _ (hsub k b hb)⟩
  rw [List.getElem?_set_ne (by omega)]
  exact h2 k hk
theorem Half.of {w : World} {F : Nat → Prop} {v : Value} {l : List R} (h : ORow w F v l) (hl : 0 < l.length) : ∃ (g cap : Nat) (ps : List (R × Value)) (Fs : Nat → Nat → Prop), v = .slice (some ⟨g, 0, none⟩) l.length cap ∧ ps.map Prod.fst = l ∧ F g ∧ Half w Fs g cap ps 0 ∧
    (∀ i b, Fs i b → F b ∧ b ≠ g) ∧ (∀ i j b, Fs i b → Fs j b → i = j) ∧ ∀ p ∈ ps, OkR p.1 := by
  cases h with
  | nil => simp at hl
  | row _ g cap ps Fs hg hown hsub hdis hok hel => exact ⟨g, cap, ps, Fs, by simp, rfl, hg, ⟨⟨_, hown, fun _ _ => rfl⟩, fun i p _ hp => hel i p hp⟩, hsub, hdis, hok⟩
theorem Half.any {w : World} {Fs : Nat → Nat → Prop} {g cap : Nat} {ps : List (R × Value)} {j : Nat} (h : Half w Fs g cap ps j) {G : Nat → Prop} (hg : G g) : AnyRow w G (.slice (some ⟨g, 0, none⟩) ps.length cap) ps.length := by
  obtain ⟨xs, h1, _⟩ := h.own
  exact ⟨xs, h1, fun k hk => by simp [Value.ownBlock] at hk; subst hk; exact hg⟩
theorem AnyRow.nil (w : World) (G : Nat → Prop) : AnyRow w G (.slice none 0 0) 0 := ⟨[], World.ownsRow_nil _ _ _ _, fun g hg => by simp [Value.ownBlock] at hg⟩
theorem Wr.more {F G : Nat → Prop} {w w' : World} (h : Wr F w w') (hg : ∀ i, F i → i < w.heap.size → G i) : Wr G w w' := ⟨h.os, h.tape, h.output, h.size, fun k hk hn => h.block k hk fun e => hn (hg k e hk)⟩
/-- A row of which the first j elements hold whatever they hold, or one of none. -/
def HalfO (w : World) (F : Nat → Prop) (v : Value) (l : List R) (j : Nat) : Prop :=
  (l = [] ∧ AnyRow w F v 0) ∨ ∃ (g cap : Nat) (ps : List (R × Value)) (Fs : Nat → Nat → Prop), v = .slice (some ⟨g, 0, none⟩) l.length cap ∧ ps.map Prod.fst = l ∧ F g ∧ Half w Fs g cap ps j ∧ (∀ i b, Fs i b → F b ∧ b ≠ g) ∧ (∀ i j b, Fs i b → Fs j b → i = j) ∧ ∀ p ∈ ps, OkR p.1
theorem HalfO.of {w : World} {F : Nat → Prop} {v : Value} {l : List R} (h : ORow w F v l) : HalfO w F v l 0 := by
  rcases Nat.eq_zero_or_pos l.length with h0 | h0
  · obtain ⟨ps, Fs, rfl, hown, hF, -⟩ := h.parts
    rw [List.length_map] at h0
    have h1 : ps = [] := List.eq_nil_of_length_eq_zero h0
    subst h1
    exact .inl ⟨rfl, _, hown, hF⟩
  · obtain ⟨g, cap, ps, Fs, h1, h2, h3, h4, h5, h6, h7⟩ := Half.of h h0
    exact .inr ⟨g, cap, ps, Fs, h1, h2, h3, h4, h5, h6, h7⟩
theorem HalfO.any {w : World} {F G : Nat → Prop} {v : Value} {l : List R} {j : Nat} (h : HalfO w F v l j) (hg : ∀ b, F b → G b) : AnyRow w G v l.length := by
  rcases h with ⟨rfl, xs, h1, h2⟩ | ⟨g, cap, ps, Fs, rfl, rfl, h3, h4, -⟩
  · exact ⟨xs, h1, fun g e => hg _ (h2 g e)⟩
  · rw [List.length_map]; exact h4.any (hg _ h3)
theorem HalfO.later {w w' : World} {F : Nat → Prop} {v : Value} {l : List R} {j : Nat} (h : HalfO w F v l j) (hb : Below w.heap.size w w') : HalfO w' F v l j := by
  rcases h with ⟨rfl, xs, h1, h2⟩ | ⟨g, cap, ps, Fs, rfl, rfl, h3, h4, h5⟩
  · exact .inl ⟨rfl, xs, owns_kept h1 fun k hk => hb.block k (h1.lt k hk).2, h2⟩
  · exact .inr ⟨g, cap, ps, Fs, rfl, rfl, h3, h4.kept hb, h5⟩
set_option maxRecDepth 100000 in
set_option maxHeartbeats 1600000 in
theorem spoil_of (k : Int) (t : List UInt8) (n : Int) (l : List R) (ih : ∀ r ∈ l, SpoilOk r) : SpoilOk (.mk k t n l) := by
  intro lv F w hok hL
  replace hL : ORow w F lv l := hL
  have hl : l.length ≤ 1073741824 := hok.2.2.2
  obtain ⟨ao, cp, rfl⟩ := hL.shape
  have HH := Lib.hid ((HalfO.of hL.lt).later ((Below.refl _ _).alloc (Nat.le_refl _) (.cells #[.int .i64 k, .string (str t), .int .i64 n, .slice ao l.length cp] 24)))
  have IH := Lib.hid ih
  obtain ⟨F', hF'⟩ : ∃ F' : Nat → Prop, (fun b => F b ∧ b < w.heap.size) = F' := ⟨_, rfl⟩
  have HF := Lib.hid (show ∀ b, F' b → F b ∧ b < w.heap.size from fun b hb => by rw [← hF'] at hb; exact hb)
  rw [hF'] at HH
  have HG := Lib.hid (show ∀ b, w.heap.size ≤ b → (F' b ∨ w.heap.size ≤ b) from fun b hb => .inr hb)
  have HGF := Lib.hid (show ∀ b, (F' b ∨ w.heap.size ≤ b) → (F' b ∨ w.heap.size ≤ b) from fun b hb => hb)
  show Calls Tryd.prog 27 #[.agg #[.int .i64 k, .string (str t), .int .i64 n, .slice ao l.length cp]] w fun e w' => e = .returned (.tuple #[]) ∧ Wr F w w'
  clear hL ih hok hF'
  go_enter Tryd.func27, Tryd.ntmps27
  go_wp2_with fail
  go_loopw [2] (fun i wr => ∃ (j : Nat), j ≤ l.length ∧ i = .int .i64 j ∧ Hid (Blk4 wr w.heap.size (.int .i64 k) (.string (str t)) (.int .i64 n) (.slice ao l.length cp)) ∧ Hid (HalfO wr F' (.slice ao l.length cp) l j) ∧ Hid (Wr F' w wr)) (fun i _ => l.length - (intOf i).toNat)
  case atStart =>
    exact ⟨0, Nat.zero_le _, rfl, Blk4.new rfl, HH.out, (Wr.refl _ _).alloc _⟩
  case round =>
    obtain ⟨j, hj, rfl, hP, hH, hW⟩ := hrel
    obtain ⟨p0, p1, p2, p3⟩ := hP.out.cells
    by_cases hlt : j < l.length
    · rcases hH.out with ⟨h0, -⟩ | ⟨g, cap, ps, Fs, h1, h2, hg, hHalf, hsub, hdis, hoks⟩
      · rw [h0] at hlt; simp at hlt
      obtain ⟨rfl, rfl⟩ : ao = some ⟨g, 0, none⟩ ∧ cp = cap := by simp only [Value.slice.injEq] at h1; exact ⟨h1.1, h1.2.2⟩
      obtain ⟨p, hp⟩ : ∃ p, ps[j]? = some p := ⟨_, List.getElem?_eq_getElem (by rw [← h2, List.length_map] at hlt; exact hlt)⟩
      obtain ⟨r, lv⟩ := p
      have hm : r ∈ l := by rw [← h2]; exact List.mem_map.2 ⟨_, List.mem_of_getElem? hp, rfl⟩
      obtain ⟨k0, k1, k2, k3⟩ := hHalf.at (Nat.le_refl j) hp
      have hel : ORow wr (Fs j) lv r.l := hHalf.el j _ (Nat.le_refl j) hp
      have hok0 : OkR r := hoks _ (List.mem_of_getElem? hp)
      obtain ⟨aj, cj, rfl⟩ := hel.shape
      have HS := Lib.hid (IH.out r hm (.slice aj r.l.length cj) (Fs j))
      have HOK := Lib.hid hok0
      clear hok0
      have HEl := Lib.hid hel
      have HHalf := Lib.hid hHalf
      have Hsub := Lib.hid hsub
      have HOks := Lib.hid hoks
      have Hdis := Lib.hid hdis
      have H1 := Lib.hid h1
      have H2 := Lib.hid h2
      have hFg := (HF.out g hg).2
      have d0 : ((j : Nat) : Int) < ((l.length : Nat) : Int) := by omega
      simp only at k0 k1 k2 k3
      clear hel hHalf hsub hdis h1 h2 hoks hp
      go_wp2_with fail
      (with_reducible refine (HS.out _ HOK.out HEl.out).mono ?_); rintro e w5 ⟨rfl, b5⟩
      have W5 := Lib.hid (hW.out.trans b5 fun i hi _ => (Hsub.out j i hi).1)
      have P5 := Lib.hid (hP.out.wr b5 fun e => by have := (HF.out _ (Hsub.out j _ e).1).2; omega)
      have X5 := Lib.hid (HHalf.out.wr b5 (fun i b hb => (Hsub.out i b hb).2) Hdis.out)
      obtain ⟨y0, y1, y2, y3⟩ := P5.out.cells
      have x5 := X5.out.free
      have hpl : j < ps.length := by rw [← H2.out, List.length_map] at hlt; exact hlt
      obtain ⟨z0, hz0⟩ := X5.out.got (i := j * 4) (by omega)
      obtain ⟨z1, hz1⟩ := X5.out.got (i := j * 4 + 1) (by omega)
      obtain ⟨z2, hz2⟩ := X5.out.got (i := j * 4 + 2) (by omega)
      obtain ⟨z3, hz3⟩ := X5.out.got (i := j * 4 + 3) (by omega)
      have hg5 := X5.out.lt
      clear b5 k0 k1 k2 k3 p0 p1 p2 p3
      go_wp2
      go_roundw
      case rel => 
        have hn : w.heap.size ≠ g := by omega
        have hs2 : ∀ i b, Fs i b → b ≠ g := fun i b hb => (Hsub.out i b hb).2
        exact ⟨j + 1, by omega, by go_num, (((P5.out.other hn _).other hn _).other hn _).other hn _, .inr ⟨g, cp, ps, Fs, rfl, H2.out, hg, (((X5.out.stored hs2 (j * 4) (by omega) _).stored hs2 (j * 4 + 1) (by omega) _).stored hs2 (j * 4 + 2) (by omega) _).stored hs2 (j * 4 + 3) (by omega) _, Hsub.out, Hdis.out, HOks.out⟩, (((W5.out.set (.inl hg) _).set (.inl hg) _).set (.inl hg) _).set (.inl hg) _⟩
      case measure => simp [intOf]; omega
    · obtain rfl : j = l.length := by omega
      have HA := Lib.hid (hH.out.any (G := fun b => F' b ∨ w.heap.size ≤ b) fun b hb => .inl hb)
      clear hH hP p0 p1 p2
      go_wp2_with fail
      go_loopw [3, 4] (fun x i wr => ∃ (kk : Nat), kk ≤ 9 ∧ i = .int .i64 kk ∧ Hid (AnyRow wr (fun b => F' b ∨ w.heap.size ≤ b) x (l.length + kk)) ∧ Hid (Wr F' w wr)) (fun _ i _ => 9 - (intOf i).toNat)
      case atStart => exact ⟨0, by omega, rfl, HA.out, hW.out⟩
      case round =>
        obtain ⟨kk, hk, rfl, hA, hW2⟩ := hrel
        by_cases hlt2 : kk < 9
        · have hll : l.length + kk ≤ 1073741900 := by omega
          go_wp2_with (at_builtin; refine wpList_append_any wr rfl (.tmp 29) (.tmp 31) rfl (fun b => F' b ∨ w.heap.size ≤ b) w HG.out F' hW2.out HGF.out u3 (l.length + kk) rfl hA.out 78 (by simp [Act.eval]) hll ?_)
          intro v7 w7 hA7 hW7
          have A7 := Lib.hid hA7
          have W7 := Lib.hid hW7
          clear hA7 hW7
          go_wp2
          go_roundw
          case rel => exact ⟨kk + 1, by omega, by go_num, A7.out, W7.out⟩
          case measure => simp [intOf]; omega
        · obtain rfl : kk = 9 := by omega
          go_wp2
          go_end0
          exact ⟨rfl, hW2.out.more fun i hi _ => (HF.out i hi).1⟩
theorem spoil_any : ∀ (r : R), SpoilOk r
  | .mk k t n l => spoil_of k t n l fun r hr => spoil_any r
end Go.Proofs.YtpngmbdchceikaaDoor
