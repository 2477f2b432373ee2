/- Small words that the walks of this seat share: texts as lists of bytes, rows of bytes, frames. Worlds that differ by new blocks and by writes to some blocks alone; rows of texts that the call owns; lists of texts without repeats. A slice of texts among the arguments: its value, its cells, its bulk. Slices of texts and slices of these among the arguments: values, cells, bulk, reach. Plain lists of texts: rising lists, the set of a list, two rising lists gone through together. Plain: files under names, what a crash leaves. -/
import Derived.Test.YtfbjmhipjfjaeaaGreatDoorRows
import Derived.WalkKit
import Derived.ProofKit
import Derived.OpenShut
import Derived.ShutString
import Derived.Below
import Derived.Lib.Hide
import Derived.Outline
import Derived.Deep.OwnRows
import Derived.Laws.IdiomStrings
import Derived.WalkLawsBesides
import Derived.WalkSpells
import Derived.Deep.Draws
import Derived.Carry
import Derived.Maps.AppendAt
import Derived.Laws.OwnMore
import Derived.Maps.Own
import Derived.Maps.OwnOps
import Derived.Maps.OwnSet
import Derived.Maps.Views
import Derived.Maps.Ext
import Derived.Deep.Strs
import Derived.SizedLaws
import Derived.Lib.SlicesCompact
namespace Go.Proofs.YtfbjmhipjfjaeaaGreatDoor
open Go.ChangeShapes Go.WideShapes Go.ChangeAt Go.RowKit

/-- A text by its list of bytes. -/
def str (l : List UInt8) : ByteArray := ⟨l.toArray⟩
theorem str_toList (l : List UInt8) : (str l).data.toList = l := rfl
theorem str_size (l : List UInt8) : (str l).size = l.length := by simp [str, ByteArray.size]
theorem str_of (s : ByteArray) : str s.data.toList = s := by cases s; rfl
theorem str_inj {a b : List UInt8} (h : str a = str b) : a = b := by
  have := congrArg (fun s : ByteArray => s.data.toList) h
  simpa [str] using this
theorem str_get (l : List UInt8) (i : Nat) (h : i < (str l).size) : (str l)[i] = l[i]'(by simpa [str_size] using h) := rfl

section
variable {P : Program} {w : World}
theorem rowBytes_string (src e : TypeId) (hs : P.underlying src = some (.slice e)) (he : P.underlying e = some (.int .u8)) {b k : Nat} {f : Nat → UInt8}
    (h : w.rowIs b e k (fun q => .int .u8 ((f q).toNat : Int))) (cap : Nat) {dst : TypeId} (hd : P.underlying dst = some .string) :
    (convert src dst (.slice (some ⟨b, 0, none⟩) k cap)).run P w = .ok (.string (str ((List.range k).map f))) w := by
  have hc := run_convert_bytes_back (P := P) w src dst e ⟨b, 0, none⟩ cap ((List.range k).map f) hs he hd (fun j hj => by
    have hj' : j < k := by simpa using hj
    have e : (⟨b, 0, none⟩ : Addr).add j = ⟨b, j, none⟩ := by unfold Addr.add; split <;> simp_all
    rw [e, h.cell hj']
    simp)
  simp only [List.length_map, List.length_range] at hc
  exact hc
end

section
variable {P : Program} {ops : Array Oper} {rest : List Oper} {o : Oper} {a : Act} {Q : Exit → Act → World → Prop}
/-- 'out = append(out, x)', one element of one cell. -/
theorem wpList_append_one (w : World) (hgd : o.guard = none) (s x : Operand) (t : TypeId) (ho : o.op = .call { callee := .builtin .append, args := #[s, x], argTypes := #[t, t] })
    (base : Nat) (e : TypeId) (z : Value) (bytes : Nat) (ht : P.underlying t = some (.slice e)) (hinfo : (P.info? e).map (fun i => (i.zero, i.size, i.bytes)) = some (some z, 1, bytes)) (hzs : z.cells.size = 1)
    (v : Value) (n : Nat) (xs : List Value) (hs : a.eval s = v) (hown : w.ownsRow base e 1 v n xs)
    (u : Value) (h1 : u.oneCell' = true) (hx : a.eval x = .slice (some ⟨w.heap.size, 0, none⟩) 1 1)
    (h63 : n + 1 ≤ maxLen) (hbytes : (n + 1) * bytes ≤ 140737488355328) (hbase : base ≤ w.heap.size)
    (h : ∀ v' w', w'.ownsRow base e 1 v' (n + 1) (xs ++ [u]) → w.grownBy w' v.ownBlock → (∀ (W : World) (B : Nat), Below B W w → B ≤ base → Below B W w') → wpList P ops Q rest (a.put o.dst v') w') :
    wpList P ops Q (o :: rest) a (w.alloc (.cells #[u] e)) := by
  obtain ⟨i, hi, hz, hsz, hby⟩ := info_parts hinfo
  refine wpList_append_own _ hgd s x t ho base e i z 1 bytes ht hi hz hsz hby hzs (by omega) v n xs hs (hown.alloc _) ⟨w.heap.size, 0, none⟩ 1 1 [u] hx rfl (cell_one_new _ _ _) (by simpa using h1) h63 hbytes (by simp; omega) ?_
  intro v' w' hown' hg _
  have hg2 : w.grownBy w' v.ownBlock := World.grownBy.trans (World.grownBy_alloc w _ _) hg
  refine h v' w' hown' hg2 fun W B hb hB => hb.grown hg2 ?_ fun k hk => ?_
  · omega
  · have := (hown.lt k hk).1; omega
end

theorem take_snoc (s : ByteArray) (k : Nat) (h : k < s.size) : s.data.toList.take (k + 1) = s.data.toList.take k ++ [s[k]] := by
  rw [List.take_succ_eq_append_getElem (by simpa using h)]; rfl
theorem drop_cons (s : ByteArray) (k : Nat) (h : k < s.size) : s.data.toList.drop k = s[k] :: s.data.toList.drop (k + 1) := by
  rw [List.drop_eq_getElem_cons (by simpa using h)]; rfl
theorem take_all (s : ByteArray) : s.data.toList.take s.size = s.data.toList := List.take_of_length_le (by simp)
theorem drop_all (s : ByteArray) : s.data.toList.drop s.size = [] := List.drop_of_length_le (by simp)
theorem len_toList (s : ByteArray) : s.data.toList.length = s.size := by simp
theorem below_drewN {B : Nat} {a w : World} (h : Below B a w) (n : Nat) : Below B a (w.drewN n) := ⟨h.os, h.tape, h.output, h.size, h.block⟩
theorem ret_tup2 {a b c d : Value} (h : a = c) (h2 : b = d) : Ending.returned (.tuple #[a, b]) = .returned (.tuple #[c, d]) := by rw [h, h2]

end Go.Proofs.YtfbjmhipjfjaeaaGreatDoor

namespace Go.Proofs.YtfbjmhipjfjaeaaGreatDoor
open Go.ChangeShapes Go.WideShapes Go.ChangeAt Go.RowKit
set_option linter.unusedVariables false

/-- w' is w with new blocks and writes to blocks of F alone. -/
structure Wr (F : Nat → Prop) (w w' : World) : Prop where
  os : w'.os = w.os
  tape : w'.tape = w.tape
  output : w'.output = w.output
  size : w.heap.size ≤ w'.heap.size
  block : ∀ k, k < w.heap.size → ¬ F k → w'.heap[k]? = w.heap[k]?
/-- F' is of F and of new blocks. -/
def Grew (w : World) (F F' : Nat → Prop) : Prop := ∀ k, F' k → F k ∨ w.heap.size ≤ k
theorem Grew.refl (w : World) (F : Nat → Prop) : Grew w F F := fun _ h => .inl h
theorem Grew.trans {a b : World} {F G H : Nat → Prop} (h : Grew a F G) (k : Grew b G H) (hs : a.heap.size ≤ b.heap.size) : Grew a F H := fun i hi =>
  (k i hi).elim (fun hg => h i hg) (fun hb => .inr (Nat.le_trans hs hb))
theorem Wr.refl (F : Nat → Prop) (w : World) : Wr F w w := ⟨rfl, rfl, rfl, Nat.le_refl _, fun _ _ _ => rfl⟩
theorem Wr.trans {a b c : World} {F G : Nat → Prop} (h : Wr F a b) (k : Wr G b c) (hg : Grew a F G) : Wr F a c :=
  ⟨k.os.trans h.os, k.tape.trans h.tape, k.output.trans h.output, Nat.le_trans h.size k.size, fun i hi hf =>
    (k.block i (Nat.lt_of_lt_of_le hi h.size) (fun hgi => (hg i hgi).elim hf (fun h2 => by omega))).trans (h.block i hi hf)⟩
theorem Wr.of_below {F : Nat → Prop} {w w' : World} (h : Below w.heap.size w w') : Wr F w w' := ⟨h.os, h.tape, h.output, h.size, fun k hk _ => h.block k hk⟩
theorem Wr.below {F : Nat → Prop} {w w' : World} (h : Wr F w w') {B : Nat} (hF : ∀ k, F k → B ≤ k) (hB : B ≤ w.heap.size) : Below B w w' :=
  ⟨h.os, h.tape, h.output, h.size, fun k hk => h.block k (by omega) (fun hf => by have := hF k hf; omega)⟩
theorem Wr.alloc {F : Nat → Prop} {a w : World} (h : Wr F a w) (o : Obj) : Wr F a (w.alloc o) :=
  h.trans (Wr.of_below ((Below.refl _ _).alloc (Nat.le_refl _) _)) (Grew.refl _ _)
theorem Wr.setCell {F : Nat → Prop} {a w : World} (h : Wr F a w) {p : Addr} (hp : F p.block) (u : Value) : Wr F a (w.setCell p u) :=
  ⟨h.os, h.tape, h.output, by simpa [World.setCell] using h.size, fun k hk hf => (Below.heap_setCell _ _ _ _ (fun e => hf (by rw [e]; exact hp))).trans (h.block k hk hf)⟩
theorem Wr.grown {F : Nat → Prop} {a w w' : World} (h : Wr F a w) {row : Option Nat} (hg : w.grownBy w' row) (hr : ∀ k, row = some k → F k ∨ a.heap.size ≤ k) : Wr F a w' :=
  ⟨hg.os.trans h.os, hg.tape.trans h.tape, hg.output.trans h.output, Nat.le_trans h.size hg.size, fun k hk hf =>
    (hg.block k (Nat.lt_of_lt_of_le hk h.size) (fun e => (hr k e.symm).elim hf (fun h2 => by omega))).trans (h.block k hk hf)⟩
theorem Wr.mono {F G : Nat → Prop} {w w' : World} (h : Wr F w w') (hg : ∀ k, F k → k < w.heap.size → G k) : Wr G w w' :=
  ⟨h.os, h.tape, h.output, h.size, fun k hk hf => h.block k hk (fun h2 => hf (hg k h2 hk))⟩
theorem Wr.drewN {F : Nat → Prop} {a w : World} (h : Wr F a w) (n : Nat) : Wr F a (w.drewN n) := ⟨h.os, h.tape, h.output, h.size, h.block⟩

/-- A row that the call owns, its block one of F. -/
def Row (w : World) (F : Nat → Prop) (e : TypeId) (v : Value) (xs : List Value) : Prop :=
  w.ownsRow 0 e 1 v xs.length xs ∧ ∀ g, v.ownBlock = some g → F g
theorem Row.shape {w : World} {F : Nat → Prop} {e : TypeId} {v : Value} {xs : List Value} (h : Row w F e v xs) : ∃ ao cp, v = .slice ao xs.length cp := by
  rcases h.1.2 with ⟨h1, h2⟩ | ⟨g, cap, cur, h1, _⟩
  · exact ⟨none, 0, by rw [h1, h2]⟩
  · exact ⟨_, _, h1⟩
theorem Row.nil (w : World) (F : Nat → Prop) (e : TypeId) : Row w F e (.slice none 0 0) [] := ⟨World.ownsRow_nil w 0 e 1, fun g h => by simp [Value.ownBlock] at h⟩
theorem Row.kept {w w' : World} {F G : Nat → Prop} {e : TypeId} {v : Value} {xs : List Value} (h : Row w F e v xs) (hw : Wr G w w') (hFG : ∀ k, F k → ¬ G k) : Row w' F e v xs := by
  refine ⟨⟨h.1.1, ?_⟩, h.2⟩
  rcases h.1.2 with h1 | ⟨g, cap, cur, rfl, hb, hg, r⟩
  · exact .inl h1
  · exact .inr ⟨g, cap, cur, rfl, hb, (hw.block g (Array.getElem?_eq_some_iff.1 hg).1 (hFG g (h.2 g rfl))).trans hg, r⟩
/-- A block of another type may be written. -/
theorem Row.kept_by {w w' : World} {F : Nat → Prop} {e : TypeId} {v : Value} {xs : List Value} (h : Row w F e v xs)
    (hw : ∀ (k : Nat) (cur : Array Value), w.heap[k]? = some (.cells cur e (0, 0)) → w'.heap[k]? = w.heap[k]?) : Row w' F e v xs := by
  refine ⟨⟨h.1.1, ?_⟩, h.2⟩
  rcases h.1.2 with h1 | ⟨g, cap, cur, rfl, hb, hg, r⟩
  · exact .inl h1
  · exact .inr ⟨g, cap, cur, rfl, hb, (hw g cur hg).trans hg, r⟩
theorem Row.mono {w : World} {F G : Nat → Prop} {e : TypeId} {v : Value} {xs : List Value} (h : Row w F e v xs) (hFG : ∀ k, F k → G k) : Row w G e v xs := ⟨h.1, fun g hg => hFG g (h.2 g hg)⟩
theorem Row.lt {w : World} {F : Nat → Prop} {e : TypeId} {v : Value} {xs : List Value} (h : Row w F e v xs) {g : Nat} (hg : v.ownBlock = some g) : g < w.heap.size := (h.1.lt g hg).2
/-- Its cells, where it is not empty. -/
theorem Row.full {w : World} {F : Nat → Prop} {e : TypeId} {v : Value} {xs : List Value} (h : Row w F e v xs) (h0 : 0 < xs.length) :
    ∃ g cp, v = .slice (some ⟨g, 0, none⟩) xs.length cp ∧ F g ∧ g < w.heap.size ∧ (∃ cur, w.heap[g]? = some (.cells cur e (0, 0))) ∧ ∀ j x, xs[j]? = some x → w.cell? ⟨g, j, none⟩ = some x := by
  rcases h.1.2 with ⟨h1, h2⟩ | ⟨g, cap, cur, rfl, h3, h4, h5, h6, h7, h8⟩
  · omega
  · refine ⟨g, cap, rfl, h.2 g rfl, (Array.getElem?_eq_some_iff.1 h4).1, ⟨cur, h4⟩, fun j x hx => ?_⟩
    have hj := (List.getElem?_eq_some_iff.1 hx).1
    have := World.ownsRow.cellAt h.1 j (by simpa using hj)
    first
      | (rw [this]; exact hx)
      | (simp only [Nat.mul_one] at this; rw [this]; exact hx)

/-- One more text in a list without repeats. -/
def addB (l : List (List UInt8)) (k : List UInt8) : List (List UInt8) := if k ∈ l then l else l ++ [k]
def litB (k : List UInt8) : Lit := .string k
theorem litB_inj {a b : List UInt8} (h : litB a = litB b) : a = b := by
  simpa [litB] using h
theorem litB_key (k : List UInt8) : WideAt.IsKeyLit (litB k) := trivial

/-- A map's datum whose keys are these texts, each with 1. -/
structure KeysAre (D : DataW Unit) (ks : List (List UInt8)) : Prop where
  tidy : Maps.Tidy D
  has : ∀ k : List UInt8, Maps.has D (litB k) = decide (k ∈ ks)
  one : ∀ k : List UInt8, k ∈ ks → D.atKey (litB k) (.lit (.int .i64 0)) = .lit (.int .i64 1)
  size : Maps.size D = ks.length
theorem KeysAre.none : KeysAre (.map []) [] := ⟨Maps.tidy_empty, fun k => rfl, fun k h => by simp at h, rfl⟩
theorem KeysAre.not {D : DataW Unit} {ks : List (List UInt8)} (h : KeysAre D ks) {k : List UInt8} (hk : k ∉ ks) : D.atKey (litB k) (.lit (.int .i64 0)) = .lit (.int .i64 0) :=
  Maps.atKey_of_not_has (by rw [h.has]; simpa using hk) _
theorem KeysAre.put {D : DataW Unit} {ks : List (List UInt8)} (h : KeysAre D ks) (k : List UInt8) : KeysAre (D.put (litB k) (.lit (.int .i64 1))) (addB ks k) := by
  have hm := h.tidy.isMap
  have hhas : ∀ k', Maps.has (D.put (litB k) (.lit (.int .i64 1))) (litB k') = decide (k' ∈ addB ks k) := by
    intro k'
    have hmem : k' ∈ addB ks k ↔ k' = k ∨ k' ∈ ks := by
      unfold addB
      split
      · rename_i hk; exact ⟨.inr, fun h => h.elim (fun e => e ▸ hk) id⟩
      · simp [or_comm]
    by_cases e : k' = k
    · subst e
      rw [Maps.has_put_same hm (litB_key _), decide_eq_true (hmem.2 (.inl rfl))]
    · rw [Maps.has_put_other (fun h => e (litB_inj h)), h.has]
      simp [hmem, e]
  refine ⟨h.tidy.put (litB_key _) _, hhas, ?_, ?_⟩
  · intro k' hk'
    by_cases e : k' = k
    · subst e; exact Maps.atKey_put_same hm (litB_key _) _ _
    · rw [Maps.atKey_put_other (fun h => e (litB_inj h))]
      refine h.one k' ?_
      unfold addB at hk'
      split at hk'
      · exact hk'
      · simpa [e] using hk'
  · rw [Maps.size_put h.tidy, h.has, h.size]
    unfold addB
    by_cases e : k ∈ ks <;> simp [e]
/-- The bound of entries may be the number of keys. -/
theorem ownsMap_tight {P : Program} {kt : TypeId} {R : Value → Option (DataW Unit × List MemPlace)} {w : World} {b n : Nat} {D : DataW Unit} {ks : List (List UInt8)} (h : w.ownsMap P kt R b n D) (hk : KeysAre D ks) : w.ownsMap P kt R b ks.length D := by
  obtain ⟨es, clock, hb, F, hs, hD⟩ := h
  refine ⟨es, clock, hb, F, ?_, hD⟩
  rw [← hk.size, hD, Maps.size_eq, length_sorted]
  simp
theorem ownsMap_wr {P : Program} {kt : TypeId} {R : Value → Option (DataW Unit × List MemPlace)} {w w' : World} {b n : Nat} {D : DataW Unit} {F : Nat → Prop} (h : w.ownsMap P kt R b n D) (hw : Wr F w w') (hb : ¬ F b) : w'.ownsMap P kt R b n D := by
  have hl := h.lt
  obtain ⟨es, clock, e, r⟩ := h
  exact ⟨es, clock, (hw.block b hl hb).trans e, r⟩
theorem ownsMap_notCells {P : Program} {kt : TypeId} {R : Value → Option (DataW Unit × List MemPlace)} {w : World} {b n : Nat} {D : DataW Unit} (h : w.ownsMap P kt R b n D) {g : Nat} {cur : Array Value} {e : TypeId} {z : Nat × Nat} (hg : w.heap[g]? = some (.cells cur e z)) : g ≠ b := by
  obtain ⟨es, clock, he, _⟩ := h
  rintro rfl
  rw [hg] at he
  cases he
theorem addB_nodup {l : List (List UInt8)} (h : l.Nodup) (k : List UInt8) : (addB l k).Nodup := by
  unfold addB
  split
  · exact h
  · rename_i hk
    rw [List.nodup_append]
    exact ⟨h, by simp, fun a ha b hb e => by simp at hb; subst hb; subst e; exact hk ha⟩
theorem addB_length (l : List (List UInt8)) (k : List UInt8) : (addB l k).length ≤ l.length + 1 := by
  unfold addB; split <;> simp
theorem addB_le (l : List (List UInt8)) (k : List UInt8) : l.length ≤ (addB l k).length := by
  unfold addB; split <;> simp
theorem mem_addB {l : List (List UInt8)} {k x : List UInt8} : x ∈ addB l k ↔ x = k ∨ x ∈ l := by
  unfold addB
  split
  · rename_i hk; exact ⟨.inr, fun h => h.elim (fun e => e ▸ hk) id⟩
  · simp [or_comm]
end Go.Proofs.YtfbjmhipjfjaeaaGreatDoor

namespace Go.Proofs.YtfbjmhipjfjaeaaGreatDoor
open Go.ChangeShapes Go.WideShapes Go.ChangeAt Go.RowKit Go.Deep
set_option linter.unusedVariables false

/-- A slice whose cells hold these texts. -/
def SRow (w : World) (v : Value) (bs : List ByteArray) : Prop :=
  ∃ ao cp, v = .slice ao bs.length cp ∧ (bs = [] ∨ ∃ g off, ao = some ⟨g, off, none⟩ ∧ g < w.heap.size ∧ ∀ j x, bs[j]? = some x → w.cell? ⟨g, off + j, none⟩ = some (.string x))
theorem SRow.kept {w w' : World} {v : Value} {bs : List ByteArray} (h : SRow w v bs) (hb : Below w.heap.size w w') : SRow w' v bs := by
  obtain ⟨ao, cp, rfl, h⟩ := h
  refine ⟨ao, cp, rfl, h.imp id ?_⟩
  rintro ⟨g, off, rfl, hg, hc⟩
  exact ⟨g, off, rfl, Nat.lt_of_lt_of_le hg hb.size, fun j x hx => (hb.cell (by exact hg)).trans (hc j x hx)⟩
/-- Letters and places of texts. -/
def bulkS (bs : List ByteArray) : Nat := (bs.map fun b => b.size + 1).sum
theorem bulkS_append (a b : List ByteArray) : bulkS (a ++ b) = bulkS a + bulkS b := by simp [bulkS]
theorem bulkS_mem {bs : List ByteArray} {b : ByteArray} (h : b ∈ bs) : b.size + 1 ≤ bulkS bs := by
  obtain ⟨s, t, rfl⟩ := List.append_of_mem h
  rw [bulkS_append]
  simp [bulkS]; omega
theorem bulkS_length (bs : List ByteArray) : bs.length ≤ bulkS bs := by
  induction bs with
  | nil => exact Nat.le_refl _
  | cons b l ih => simp [bulkS] at ih ⊢; omega

theorem uptoStrs {H : Type} (Sx : Nat → ByteArray) (l : List Nat) : Rows.uptoBulkAll (l.map fun i => (DataW.lit (H := H) (.string (Sx i).data.toList))) = bulkS (l.map Sx) := by
  induction l with
  | nil => simp [bulkS, Rows.uptoBulkAll]
  | cons i l ih =>
    rw [List.map_cons, List.map_cons]
    simp only [Rows.uptoBulkAll, Rows.uptoBulk]
    rw [ih]
    simp [bulkS]

section
variable {H : Type} {enc : TypeId × Value → H} {P : Program} {W : World}
theorem srow_open {r : Reach} {b0 : Nat} {t e : TypeId} {v : Value} {d : DataW H} {ps : List MemPlace} {sp : Nat → Bool} (ht : P.underlying t = some (.slice e)) (he : P.underlying e = some .string) (hc : P.cellsOf e = 1)
    (hval : Value.okWide P W r b0 t v) (h : DataW.Trod enc P W 0 sp true t v d ps) (hlt : ∀ x ∈ ps, x.block < W.heap.size) :
    ∃ bs, SRow W v bs ∧ (∀ b ∈ bs, b.size ≤ maxLen) ∧ bs.length ≤ maxLen ∧ bulkS bs + 1 ≤ Rows.uptoBulk d := by
  obtain ⟨a0, len, cap, rfl⟩ := okWide_slice ht hval
  obtain ⟨fuel, hf⟩ := h
  rcases open_strs ht he hc hf with ⟨hcs, hx⟩ | ⟨a, len', cap', m, Sx, hcs, _, hl, hm, hmm, hx, hcell⟩
  · simp [Value.cells] at hcs
    obtain ⟨rfl, rfl, rfl⟩ := hcs
    simp only [Prod.mk.injEq] at hx
    obtain ⟨rfl, rfl⟩ := hx
    exact ⟨[], ⟨none, 0, rfl, .inl rfl⟩, by simp, by simp, by simp [bulkS, Rows.uptoBulk]⟩
  · simp [Value.cells] at hcs
    obtain ⟨rfl, rfl, rfl⟩ := hcs
    simp only [Prod.mk.injEq] at hx
    obtain ⟨rfl, rfl⟩ := hx
    have hlm : len ≤ m := by rw [hmm]; split <;> omega
    refine ⟨(List.range len).map Sx, ⟨some a, cap, by simp, ?_⟩, fun b hb => ?_, by simp; omega, ?_⟩
    · by_cases h0 : len = 0
      · left; rw [h0]; rfl
      · right
        obtain ⟨g, off, spot⟩ := a
        have hspot : spot = none := by simpa [Addr.add] using World.cell?_spot (hcell 0 (by omega)).1
        subst hspot
        refine ⟨g, off, rfl, hlt (MemPlace.cell g off) (MemPlace.mem_row.2 ⟨0, by omega, rfl⟩), fun j x hx => ?_⟩
        have hj : j < len := by simpa using (List.getElem?_eq_some_iff.1 hx).1
        rw [← add_plain, (hcell j (by omega)).1]
        simp [hj] at hx
        rw [hx]
    · obtain ⟨i, hi, rfl⟩ := List.mem_map.1 hb
      have := List.mem_range.1 hi
      exact (hcell i (by omega)).2
    · simp only [Rows.uptoBulk]
      rw [uptoStrs]
      omega
end
end Go.Proofs.YtfbjmhipjfjaeaaGreatDoor

namespace Go.Proofs.YtfbjmhipjfjaeaaGreatDoor
open Go.ChangeShapes Go.WideShapes Go.ChangeAt Go.RowKit Go.Deep
set_option linter.unusedVariables false

/-- A slice whose cells hold slices of these texts. -/
def LRow (w : World) (v : Value) (rs : List (List ByteArray)) : Prop :=
  ∃ ao cp, v = .slice ao rs.length cp ∧ (rs = [] ∨ ∃ g off, ao = some ⟨g, off, none⟩ ∧ g < w.heap.size ∧ ∀ (j : Nat) r, rs[j]? = some r → ∃ x, w.cell? ⟨g, off + j, none⟩ = some x ∧ SRow w x r)
theorem LRow.kept {w w' : World} {v : Value} {rs : List (List ByteArray)} (h : LRow w v rs) (hb : Below w.heap.size w w') : LRow w' v rs := by
  obtain ⟨ao, cp, rfl, h⟩ := h
  refine ⟨ao, cp, rfl, h.imp id ?_⟩
  rintro ⟨g, off, rfl, hg, hc⟩
  refine ⟨g, off, rfl, Nat.lt_of_lt_of_le hg hb.size, fun j r hr => ?_⟩
  obtain ⟨x, hx, hs⟩ := hc j r hr
  exact ⟨x, (hb.cell (by exact hg)).trans hx, hs.kept hb⟩
def bulkL (rs : List (List ByteArray)) : Nat := (rs.map fun r => bulkS r + 1).sum
theorem bulkL_mem {rs : List (List ByteArray)} {r : List ByteArray} (h : r ∈ rs) : bulkS r + 1 ≤ bulkL rs := by
  obtain ⟨s, t, rfl⟩ := List.append_of_mem h
  simp [bulkL]; omega
theorem bulkL_length (rs : List (List ByteArray)) : rs.length ≤ bulkL rs := by
  induction rs with
  | nil => exact Nat.le_refl _
  | cons b l ih => simp [bulkL] at ih ⊢; omega

section
variable {H : Type} {enc : TypeId × Value → H} {P : Program} {W : World}
theorem srow_trod {t e : TypeId} {fuel : Nat} {cs : List Value} {d : DataW H} {ps : List MemPlace} {sp : Nat → Bool} (ht : P.underlying t = some (.slice e)) (he : P.underlying e = some .string) (hc : P.cellsOf e = 1)
    (hf : DataW.trod enc P W 0 sp true fuel t cs = some (d, ps)) (hlt : ∀ x ∈ ps, x.block < W.heap.size) :
    ∃ v bs, cs = [v] ∧ SRow W v bs ∧ (∀ b ∈ bs, b.size ≤ maxLen) ∧ bs.length ≤ maxLen ∧ bulkS bs + 1 ≤ Rows.uptoBulk d ∧ ((d.weights P t).all (· ≤ reachBytes) = true → bs.length * P.bytesOf e ≤ reachBytes) := by
  rcases open_strs ht he hc hf with ⟨rfl, hx⟩ | ⟨a, len, cap, m, Sx, rfl, _, hl, hm, hmm, hx, hcell⟩
  · simp only [Prod.mk.injEq] at hx
    obtain ⟨rfl, rfl⟩ := hx
    exact ⟨_, [], rfl, ⟨none, 0, rfl, .inl rfl⟩, by simp, by simp, by simp [bulkS, Rows.uptoBulk], by simp⟩
  · simp only [Prod.mk.injEq] at hx
    obtain ⟨rfl, rfl⟩ := hx
    have hlm : len ≤ m := by rw [hmm]; split <;> omega
    refine ⟨_, (List.range len).map Sx, rfl, ⟨some a, cap, by simp, ?_⟩, fun b hb => ?_, by simp; omega, ?_, fun hw => ?_⟩
    · by_cases h0 : len = 0
      · left; rw [h0]; rfl
      · right
        obtain ⟨g, off, spot⟩ := a
        have hspot : spot = none := by simpa [Addr.add] using World.cell?_spot (hcell 0 (by omega)).1
        subst hspot
        refine ⟨g, off, rfl, hlt (MemPlace.cell g off) (MemPlace.mem_row.2 ⟨0, by omega, rfl⟩), fun j x hx => ?_⟩
        have hj : j < len := by simpa using (List.getElem?_eq_some_iff.1 hx).1
        rw [← add_plain, (hcell j (by omega)).1]
        simp [hj] at hx
        rw [hx]
    · obtain ⟨i, hi, rfl⟩ := List.mem_map.1 hb
      have := List.mem_range.1 hi
      exact (hcell i (by omega)).2
    · simp only [Rows.uptoBulk]
      rw [uptoStrs]
      omega
    · have := List.all_eq_true.1 hw ((len + (m - len)) * P.bytesOf e) (by simp [DataW.weights, ht])
      have h2 : (len + (m - len)) * P.bytesOf e ≤ reachBytes := by simpa using this
      refine Nat.le_trans (Nat.mul_le_mul_right _ ?_) h2
      simp
theorem srow_sized {r : Reach} {b0 : Nat} {t e : TypeId} {v : Value} {d : DataW H} {ps : List MemPlace} {sp : Nat → Bool} (ht : P.underlying t = some (.slice e)) (he : P.underlying e = some .string) (hc : P.cellsOf e = 1)
    (hval : Value.okWide P W r b0 t v) (h : DataW.Trod enc P W 0 sp true t v d ps) (hlt : ∀ x ∈ ps, x.block < W.heap.size) :
    ∃ bs, SRow W v bs ∧ (∀ b ∈ bs, b.size ≤ maxLen) ∧ bs.length ≤ maxLen ∧ bulkS bs + 1 ≤ Rows.uptoBulk d ∧ ((d.weights P t).all (· ≤ reachBytes) = true → bs.length * P.bytesOf e ≤ reachBytes) := by
  obtain ⟨a0, len, cap, rfl⟩ := okWide_slice ht hval
  obtain ⟨fuel, hf⟩ := h
  obtain ⟨v, bs, e, r⟩ := srow_trod ht he hc hf hlt
  have : v = .slice a0 len cap := by simpa [Value.cells] using e.symm
  subst this
  exact ⟨bs, r⟩
theorem weightsAll_mem {e : TypeId} : ∀ {l : List (DataW H)} {d : DataW H}, d ∈ l → ∀ n ∈ d.weights P e, n ∈ DataW.weightsAll P e l
  | x :: l, d, h, n, hn => by
    simp only [DataW.weightsAll, List.mem_append]
    rcases List.mem_cons.1 h with rfl | h
    · exact .inl hn
    · exact .inr (weightsAll_mem h n hn)
theorem uptoAll_ge (f : Nat → DataW H) (g : Nat → Nat) : ∀ l : List Nat, (∀ i ∈ l, g i ≤ Rows.uptoBulk (f i)) → (l.map g).sum ≤ Rows.uptoBulkAll (l.map f)
  | [], _ => by simp
  | i :: l, h => by
    have h1 := h i (by simp)
    have h2 := uptoAll_ge f g l (fun j hj => h j (by simp [hj]))
    simp only [List.map_cons, List.sum_cons, Rows.uptoBulkAll]
    omega
/-- A slice of slices of texts. -/
theorem lrow_sized {r : Reach} {b0 : Nat} {t e e2 : TypeId} {v : Value} {d : DataW H} {ps : List MemPlace} {sp : Nat → Bool} (ht : P.underlying t = some (.slice e)) (he : P.underlying e = some (.slice e2)) (hs : P.underlying e2 = some .string) (hc : P.cellsOf e = 1) (hc2 : P.cellsOf e2 = 1)
    (hval : Value.okWide P W r b0 t v) (h : DataW.Trod enc P W 0 sp true t v d ps) (hlt : ∀ x ∈ ps, x.block < W.heap.size) :
    ∃ rs, LRow W v rs ∧ (∀ q ∈ rs, ∀ b ∈ q, b.size ≤ maxLen) ∧ rs.length ≤ maxLen ∧ bulkL rs + 1 ≤ Rows.uptoBulk d ∧ ((d.weights P t).all (· ≤ reachBytes) = true → rs.length * P.bytesOf e ≤ reachBytes ∧ ∀ q ∈ rs, q.length * P.bytesOf e2 ≤ reachBytes) := by
  obtain ⟨a0, len, cap, rfl⟩ := okWide_slice ht hval
  obtain ⟨fuel, hf⟩ := h
  rcases open_slice1 ht hc hf with ⟨hcs, hx⟩ | ⟨a, len', cap', m, n, V, D, Pl, hcs, _, hl, hm, hmm, hx, hcell⟩
  · simp [Value.cells] at hcs
    obtain ⟨rfl, rfl, rfl⟩ := hcs
    simp only [Prod.mk.injEq] at hx
    obtain ⟨rfl, rfl⟩ := hx
    exact ⟨[], ⟨none, 0, rfl, .inl rfl⟩, by simp, by simp, by simp [bulkL, Rows.uptoBulk], by simp⟩
  · simp [Value.cells] at hcs
    obtain ⟨rfl, rfl, rfl⟩ := hcs
    simp only [Prod.mk.injEq] at hx
    obtain ⟨rfl, rfl⟩ := hx
    have hlm : len ≤ m := by rw [hmm]; split <;> omega
    have each : ∀ i, i < len → ∃ q : List ByteArray, SRow W (V i) q ∧ (∀ b ∈ q, b.size ≤ maxLen) ∧ q.length ≤ maxLen ∧ bulkS q + 1 ≤ Rows.uptoBulk (D i) ∧ (((D i).weights P e).all (· ≤ reachBytes) = true → q.length * P.bytesOf e2 ≤ reachBytes) := fun i hi => by
      obtain ⟨v, q, e1, r⟩ := srow_trod he hs hc2 (hcell i (by omega)).2 (fun x hx => hlt x (List.mem_append.2 (.inr (List.mem_flatMap.2 ⟨i, List.mem_range.2 (by omega), hx⟩))))
      have : v = V i := by simpa using e1.symm
      subst this
      exact ⟨q, r⟩
    obtain ⟨Q, hQ⟩ := choose_lt each
    refine ⟨(List.range len).map Q, ⟨some a, cap, by simp, ?_⟩, fun q hq => ?_, by simp; omega, ?_, fun hw => ⟨?_, fun q hq => ?_⟩⟩
    · by_cases h0 : len = 0
      · left; rw [h0]; rfl
      · right
        obtain ⟨g, off, spot⟩ := a
        have hspot : spot = none := by simpa [Addr.add] using World.cell?_spot (hcell 0 (by omega)).1
        subst hspot
        refine ⟨g, off, rfl, hlt (MemPlace.cell g off) (List.mem_append.2 (.inl (MemPlace.mem_row.2 ⟨0, by omega, rfl⟩))), fun j x hx => ?_⟩
        have hj : j < len := by simpa using (List.getElem?_eq_some_iff.1 hx).1
        simp [hj] at hx
        subst hx
        exact ⟨V j, by rw [← add_plain]; exact (hcell j (by omega)).1, (hQ j hj).1⟩
    · obtain ⟨i, hi, rfl⟩ := List.mem_map.1 hq
      exact (hQ i (List.mem_range.1 hi)).2.1
    · simp only [Rows.uptoBulk]
      have := uptoAll_ge D (fun i => bulkS (Q i) + 1) (List.range len) (fun i hi => (hQ i (List.mem_range.1 hi)).2.2.2.1)
      simp only [bulkL, List.map_map, Function.comp_def]
      omega
    · have := List.all_eq_true.1 hw ((len + (m - len)) * P.bytesOf e) (by simp [DataW.weights, ht])
      have h2 : (len + (m - len)) * P.bytesOf e ≤ reachBytes := by simpa using this
      refine Nat.le_trans (Nat.mul_le_mul_right _ ?_) h2
      simp
    · obtain ⟨i, hi, rfl⟩ := List.mem_map.1 hq
      have hi2 := List.mem_range.1 hi
      refine (hQ i hi2).2.2.2.2 (List.all_eq_true.2 fun n hn => List.all_eq_true.1 hw n ?_)
      simp only [DataW.weights, ht, List.mem_cons, List.mem_append]
      exact .inr (.inl (weightsAll_mem (List.mem_map.2 ⟨i, hi, rfl⟩) n hn))
end
end Go.Proofs.YtfbjmhipjfjaeaaGreatDoor

namespace Go.Proofs.YtfbjmhipjfjaeaaGreatDoor.Pl
open Go.Lib
set_option linter.unusedVariables false

abbrev Tx := List UInt8
theorem tri (a b : Tx) : a < b ∨ a = b ∨ b < a := by
  by_cases h : a < b
  · exact .inl h
  by_cases k : b < a
  · exact .inr (.inr k)
  · exact .inr (.inl (List.le_antisymm (List.not_lt.1 k) (List.not_lt.1 h)))
theorem ltT {a b c : Tx} (h : a < b) (k : b < c) : a < c := List.lt_trans h k
theorem ltI (a : Tx) : ¬ a < a := List.lt_irrefl a
theorem ltN {a b : Tx} (h : a < b) : a ≠ b := fun e => ltI b (e ▸ h)
theorem ltA {a b : Tx} (h : a < b) : ¬ b < a := List.lt_asymm h
def Rising (l : List Tx) : Prop := l.Pairwise (· < ·)
def ins (x : Tx) : List Tx → List Tx
  | [] => [x]
  | y :: r => if y < x then y :: ins x r else if y = x then y :: r else x :: y :: r
def ofS (l : List Tx) : List Tx := l.foldl (fun a x => ins x a) []
theorem mem_ins {x z : Tx} : ∀ {l : List Tx}, z ∈ ins x l ↔ z = x ∨ z ∈ l
  | [] => by simp [ins]
  | y :: r => by
    unfold ins
    split
    · rw [List.mem_cons, mem_ins, List.mem_cons]
      exact ⟨fun h => h.elim (fun e => .inr (.inl e)) (fun h => h.elim .inl (fun h => .inr (.inr h))), fun h => h.elim (fun e => .inr (.inl e)) (fun h => h.elim .inl (fun h => .inr (.inr h)))⟩
    · split
      · rename_i e
        subst e
        simp
      · simp
theorem rising_ins {x : Tx} : ∀ {l : List Tx}, Rising l → Rising (ins x l)
  | [], _ => by simp [ins, Rising]
  | y :: r, h => by
    have h1 := List.pairwise_cons.1 h
    unfold ins
    split
    · rename_i hy
      refine List.pairwise_cons.2 ⟨fun z hz => ?_, rising_ins h1.2⟩
      rcases mem_ins.1 hz with rfl | hz
      · exact hy
      · exact h1.1 z hz
    · split
      · exact h
      · rename_i hy hn
        have hxy : x < y := by
          rcases tri x y with h | h | h
          · exact h
          · exact absurd h.symm hn
          · exact absurd h hy
        refine List.pairwise_cons.2 ⟨fun z hz => ?_, h⟩
        rcases List.mem_cons.1 hz with rfl | hz
        · exact hxy
        · exact ltT hxy (h1.1 z hz)
theorem ins_length (x : Tx) : ∀ l : List Tx, (ins x l).length ≤ l.length + 1
  | [] => by simp [ins]
  | y :: r => by
    unfold ins
    split
    · have := ins_length x r; simp; omega
    · split <;> simp
theorem ofS_snoc (l : List Tx) (x : Tx) : ofS (l ++ [x]) = ins x (ofS l) := by simp [ofS, List.foldl_append]
theorem fold_mem (l : List Tx) : ∀ (a : List Tx) (z : Tx), z ∈ l.foldl (fun a x => ins x a) a ↔ z ∈ a ∨ z ∈ l := by
  induction l with
  | nil => intro a z; simp
  | cons x r ih =>
    intro a z
    rw [List.foldl_cons, ih, mem_ins, List.mem_cons]
    exact ⟨fun h => h.elim (fun h => h.elim (fun e => .inr (.inl e)) .inl) (fun h => .inr (.inr h)), fun h => h.elim (fun h => .inl (.inr h)) (fun h => h.elim (fun e => .inl (.inl e)) .inr)⟩
theorem fold_rising (l : List Tx) : ∀ a : List Tx, Rising a → Rising (l.foldl (fun a x => ins x a) a) := by
  induction l with
  | nil => intro a h; exact h
  | cons x r ih => intro a h; exact ih _ (rising_ins h)
theorem fold_length (l : List Tx) : ∀ a : List Tx, (l.foldl (fun a x => ins x a) a).length ≤ a.length + l.length := by
  induction l with
  | nil => intro a; simp
  | cons x r ih => intro a; rw [List.foldl_cons]; have := ih (ins x a); have := ins_length x a; simp; omega
theorem mem_ofS {l : List Tx} {z : Tx} : z ∈ ofS l ↔ z ∈ l := by unfold ofS; rw [fold_mem]; simp
theorem rising_ofS (l : List Tx) : Rising (ofS l) := fold_rising l [] List.Pairwise.nil
theorem ofS_length (l : List Tx) : (ofS l).length ≤ l.length := by have := fold_length l []; simpa [ofS] using this
theorem rising_ext : ∀ {a b : List Tx}, Rising a → Rising b → (∀ x, x ∈ a ↔ x ∈ b) → a = b
  | [], [], _, _, _ => rfl
  | [], y :: b, _, _, h => by have := (h y).2 (by simp); simp at this
  | x :: a, [], _, _, h => by have := (h x).1 (by simp); simp at this
  | x :: a, y :: b, ha, hb, h => by
    have ha1 := List.pairwise_cons.1 ha
    have hb1 := List.pairwise_cons.1 hb
    have hxy : x = y := by
      rcases List.mem_cons.1 ((h x).1 (by simp)) with e | e
      · exact e
      · rcases List.mem_cons.1 ((h y).2 (by simp)) with e2 | e2
        · exact e2.symm
        · exact absurd (ha1.1 y e2) (ltA (hb1.1 x e))
    subst hxy
    congr 1
    refine rising_ext ha1.2 hb1.2 fun z => ⟨fun hz => ?_, fun hz => ?_⟩
    · rcases List.mem_cons.1 ((h z).1 (by simp [hz])) with e | e
      · exact absurd e.symm (ltN (ha1.1 z hz))
      · exact e
    · rcases List.mem_cons.1 ((h z).2 (by simp [hz])) with e | e
      · exact absurd e.symm (ltN (hb1.1 z hz))
      · exact e
theorem ofS_unique {a l : List Tx} (ha : Rising a) (h : ∀ x, x ∈ a ↔ x ∈ l) : a = ofS l := rising_ext ha (rising_ofS l) fun x => (h x).trans mem_ofS.symm
theorem ofS_rising {a : List Tx} (ha : Rising a) : ofS a = a := (ofS_unique ha fun _ => Iff.rfl).symm
theorem ofS_congr {a b : List Tx} (h : ∀ x, x ∈ a ↔ x ∈ b) : ofS a = ofS b := rising_ext (rising_ofS a) (rising_ofS b) fun x => mem_ofS.trans ((h x).trans mem_ofS.symm)
theorem rising_sub {a b : List Tx} (h : b.Sublist a) (ha : Rising a) : Rising b := ha.sublist h

/-- slices.Compact of a sorted list. -/
theorem compact_sorted (zs : List Tx) (h : zs.Pairwise (fun a b => ¬ b < a)) : Rising (compact zs) ∧ ∀ x, x ∈ compact zs ↔ x ∈ zs := by
  have get : ∀ j (hj : j < zs.length), zs.toArray[j]! = zs[j] := fun j hj => by simp [hj]
  have key : ∀ m, m ≤ zs.length → Rising (compactUpTo zs.toArray m) ∧ ∀ x, x ∈ compactUpTo zs.toArray m ↔ ∃ j, ∃ hj : j < zs.length, j < m ∧ zs[j] = x := by
    intro m
    induction m with
    | zero => intro _; exact ⟨List.Pairwise.nil, fun x => by simp [compactUpTo]⟩
    | succ m ih =>
      intro hm
      obtain ⟨h1, h2⟩ := ih (by omega)
      rw [compactUpTo_succ]
      have hmm : m < zs.length := by omega
      have gm := get m hmm
      have le : ∀ j (hj : j < m), ¬ zs[m] < zs[j] := fun j hj => List.pairwise_iff_getElem.1 h j m (by omega) hmm hj
      rcases hk : keeps zs.toArray m with _ | _
      · rw [if_neg (by simp), List.append_nil]
        refine ⟨h1, fun x => (h2 x).trans ⟨fun ⟨j, hj, hjm, e⟩ => ⟨j, hj, by omega, e⟩, fun ⟨j, hj, hjm, e⟩ => ?_⟩⟩
        by_cases hj2 : j = m
        · subst hj2
          have hne : ¬ (j = 0 ∨ zs.toArray[j]! ≠ zs.toArray[j - 1]!) := by unfold keeps at hk; exact of_decide_eq_false hk
          simp only [not_or, ne_eq, Decidable.not_not] at hne
          exact ⟨j - 1, by omega, by omega, (get (j - 1) (by omega)).symm.trans (hne.2.symm.trans ((get j hj).trans e))⟩
        · exact ⟨j, hj, by omega, e⟩
      · rw [if_pos rfl, gm]
        constructor
        · refine List.pairwise_append.2 ⟨h1, by simp, fun x hx y hy => ?_⟩
          obtain rfl : y = zs[m] := by simpa using hy
          obtain ⟨j, hj, hjm, rfl⟩ := (h2 x).1 hx
          have hm1 : zs[m - 1]'(by omega) ≠ zs[m] := by
            have : m = 0 ∨ zs.toArray[m]! ≠ zs.toArray[m - 1]! := by unfold keeps at hk; exact of_decide_eq_true hk
            rcases this with h0 | h0
            · omega
            · rw [gm, get (m - 1) (by omega)] at h0
              exact fun e => h0 e.symm
          have hlt1 : zs[m - 1]'(by omega) < zs[m] := by
            rcases tri (zs[m - 1]'(by omega)) zs[m] with h | h | h
            · exact h
            · exact absurd h hm1
            · exact absurd h (le (m - 1) (by omega))
          rcases tri zs[j] zs[m] with h3 | h3 | h3
          · exact h3
          · exfalso
            by_cases hj1 : j = m - 1
            · subst hj1; exact hm1 h3
            · have := List.pairwise_iff_getElem.1 h j (m - 1) hj (by omega) (by omega)
              exact this (h3 ▸ hlt1)
          · exact absurd h3 (le j hjm)
        · intro x
          rw [List.mem_append, h2]
          constructor
          · rintro (⟨j, hj, hjm, e⟩ | hx)
            · exact ⟨j, hj, by omega, e⟩
            · exact ⟨m, hmm, by omega, by simpa using (List.mem_singleton.1 hx).symm⟩
          · rintro ⟨j, hj, hjm, e⟩
            by_cases hj2 : j = m
            · subst hj2; exact .inr (by rw [← e]; simp)
            · exact .inl ⟨j, hj, by omega, e⟩
  obtain ⟨h1, h2⟩ := key zs.length (Nat.le_refl _)
  refine ⟨h1, fun x => (h2 x).trans ⟨fun ⟨j, hj, _, e⟩ => e ▸ List.getElem_mem hj, fun hx => ?_⟩⟩
  obtain ⟨j, hj, e⟩ := List.mem_iff_getElem.1 hx
  exact ⟨j, hj, hj, e⟩
theorem sorted_merge (l : List Tx) : (l.mergeSort fun x y => decide (x ≤ y)).Pairwise (fun a b => ¬ b < a) := by
  have := List.pairwise_mergeSort (le := fun x y : Tx => decide (x ≤ y)) (fun a b c h k => by
    simp only [decide_eq_true_eq] at *
    exact List.le_trans h k) (fun a b => by
    rcases List.le_total a b with h | h <;> simp [h]) l
  exact this.imp fun h => of_decide_eq_true h
theorem compact_ofS (l : List Tx) : compact (l.mergeSort fun x y => decide (x ≤ y)) = ofS l := by
  obtain ⟨h1, h2⟩ := compact_sorted _ (sorted_merge l)
  exact ofS_unique h1 fun x => (h2 x).trans (List.mergeSort_perm l _).mem_iff

/-- Two lists gone through together. -/
def mg (f b s : Bool) : List Tx → List Tx → List Tx
  | [], [] => []
  | x :: xs, [] => (if f then [x] else []) ++ mg f b s xs []
  | [], y :: ys => (if s then [y] else []) ++ mg f b s [] ys
  | x :: xs, y :: ys => if x < y then (if f then [x] else []) ++ mg f b s xs (y :: ys) else if y < x then (if s then [y] else []) ++ mg f b s (x :: xs) ys else (if b then [x] else []) ++ mg f b s xs ys
termination_by l r => l.length + r.length
theorem mg_sub (f b s : Bool) : ∀ (n : Nat) (l r : List Tx), l.length + r.length ≤ n → ∀ z, z ∈ mg f b s l r → z ∈ l ∨ z ∈ r
  | _, [], [], _, z, h => by simp [mg] at h
  | n, x :: xs, [], hn, z, h => by
    rw [mg, List.mem_append] at h
    obtain ⟨m, rfl⟩ : ∃ m, n = m + 1 := ⟨n - 1, by simp at hn; omega⟩
    rcases h with h | h
    · left; split at h <;> simp at h; simp [h]
    · rcases mg_sub f b s m xs [] (by simp at hn ⊢; omega) z h with h | h
      · exact .inl (by simp [h])
      · simp at h
  | n, [], y :: ys, hn, z, h => by
    rw [mg, List.mem_append] at h
    obtain ⟨m, rfl⟩ : ∃ m, n = m + 1 := ⟨n - 1, by simp at hn; omega⟩
    rcases h with h | h
    · right; split at h <;> simp at h; simp [h]
    · rcases mg_sub f b s m [] ys (by simp at hn ⊢; omega) z h with h | h
      · simp at h
      · exact .inr (by simp [h])
  | n, x :: xs, y :: ys, hn, z, h => by
    rw [mg] at h
    obtain ⟨m, rfl⟩ : ∃ m, n = m + 1 := ⟨n - 1, by simp at hn; omega⟩
    split at h
    · rcases List.mem_append.1 h with h | h
      · left; split at h <;> simp at h; simp [h]
      · rcases mg_sub f b s m xs (y :: ys) (by simp at hn ⊢; omega) z h with h | h
        · exact .inl (by simp [h])
        · exact .inr h
    · split at h
      · rcases List.mem_append.1 h with h | h
        · right; split at h <;> simp at h; simp [h]
        · rcases mg_sub f b s m (x :: xs) ys (by simp at hn ⊢; omega) z h with h | h
          · exact .inl h
          · exact .inr (by simp [h])
      · rcases List.mem_append.1 h with h | h
        · left; split at h <;> simp at h; simp [h]
        · rcases mg_sub f b s m xs ys (by simp at hn ⊢; omega) z h with h | h
          · exact .inl (by simp [h])
          · exact .inr (by simp [h])
/-- What is kept. -/
def Keeps (f b s : Bool) (l r : List Tx) (z : Tx) : Prop := (f = true ∧ z ∈ l ∧ z ∉ r) ∨ (b = true ∧ z ∈ l ∧ z ∈ r) ∨ (s = true ∧ z ∉ l ∧ z ∈ r)
theorem mg_facts (f b s : Bool) : ∀ (n : Nat) (l r : List Tx), l.length + r.length ≤ n → Rising l → Rising r → Rising (mg f b s l r) ∧ ∀ z, z ∈ mg f b s l r ↔ Keeps f b s l r z
  | _, [], [], _, _, _ => by rw [mg]; exact ⟨List.Pairwise.nil, fun z => by simp [Keeps]⟩
  | n, x :: xs, [], hn, hl, hr => by
    obtain ⟨m, rfl⟩ : ∃ m, n = m + 1 := ⟨n - 1, by simp at hn; omega⟩
    have h1 := List.pairwise_cons.1 hl
    obtain ⟨i1, i2⟩ := mg_facts f b s m xs [] (by simp at hn ⊢; omega) h1.2 hr
    rw [mg]
    have sub := mg_sub f b s m xs [] (by simp at hn ⊢; omega)
    constructor
    · split
      · exact List.pairwise_cons.2 ⟨fun z hz => (sub z hz).elim (h1.1 z) (fun h => by simp at h), i1⟩
      · exact i1
    · intro z
      rw [List.mem_append, i2]
      unfold Keeps
      cases f <;> simp [eq_comm]
  | n, [], y :: ys, hn, hl, hr => by
    obtain ⟨m, rfl⟩ : ∃ m, n = m + 1 := ⟨n - 1, by simp at hn; omega⟩
    have h1 := List.pairwise_cons.1 hr
    obtain ⟨i1, i2⟩ := mg_facts f b s m [] ys (by simp at hn ⊢; omega) hl h1.2
    rw [mg]
    have sub := mg_sub f b s m [] ys (by simp at hn ⊢; omega)
    constructor
    · split
      · exact List.pairwise_cons.2 ⟨fun z hz => (sub z hz).elim (fun h => by simp at h) (h1.1 z), i1⟩
      · exact i1
    · intro z
      rw [List.mem_append, i2]
      unfold Keeps
      cases s <;> simp [eq_comm]
  | n, x :: xs, y :: ys, hn, hl, hr => by
    obtain ⟨m, rfl⟩ : ∃ m, n = m + 1 := ⟨n - 1, by simp at hn; omega⟩
    have h1 := List.pairwise_cons.1 hl
    have h2 := List.pairwise_cons.1 hr
    rw [mg]
    split
    · rename_i hxy
      obtain ⟨i1, i2⟩ := mg_facts f b s m xs (y :: ys) (by simp at hn ⊢; omega) h1.2 hr
      have sub := mg_sub f b s m xs (y :: ys) (by simp at hn ⊢; omega)
      have hx : x ∉ y :: ys := fun h => (List.mem_cons.1 h).elim (fun e => ltN hxy e) (fun h => ltN (ltT hxy (h2.1 x h)) rfl)
      constructor
      · split
        · exact List.pairwise_cons.2 ⟨fun z hz => (sub z hz).elim (h1.1 z) (fun h => (List.mem_cons.1 h).elim (fun e => e ▸ hxy) (fun h => ltT hxy (h2.1 z h))), i1⟩
        · exact i1
      · intro z
        rw [List.mem_append, i2]
        have hzz : z ∈ (if f = true then [x] else []) ↔ f = true ∧ z = x := by cases f <;> simp
        rw [hzz]
        unfold Keeps
        rw [List.mem_cons (a := z) (b := x)]
        by_cases e : z = x
        · have hn3 : z ∉ xs := fun h => ltN (h1.1 z h) e.symm
          simp [e, hx, (e ▸ hn3 : x ∉ xs)]
        · simp [e]
    · rename_i hxy
      split
      · rename_i hyx
        obtain ⟨i1, i2⟩ := mg_facts f b s m (x :: xs) ys (by simp at hn ⊢; omega) hl h2.2
        have sub := mg_sub f b s m (x :: xs) ys (by simp at hn ⊢; omega)
        have hy : y ∉ x :: xs := fun h => (List.mem_cons.1 h).elim (fun e => ltN hyx e) (fun h => ltN (ltT hyx (h1.1 y h)) rfl)
        constructor
        · split
          · exact List.pairwise_cons.2 ⟨fun z hz => (sub z hz).elim (fun h => (List.mem_cons.1 h).elim (fun e => e ▸ hyx) (fun h => ltT hyx (h1.1 z h))) (h2.1 z), i1⟩
          · exact i1
        · intro z
          rw [List.mem_append, i2]
          have hzz : z ∈ (if s = true then [y] else []) ↔ s = true ∧ z = y := by cases s <;> simp
          rw [hzz]
          unfold Keeps
          rw [List.mem_cons (a := z) (b := y)]
          by_cases e : z = y
          · have hn3 : z ∉ ys := fun h => ltN (h2.1 z h) e.symm
            simp [e, hy, (e ▸ hn3 : y ∉ ys)]
          · simp [e]
      · rename_i hyx
        obtain rfl : x = y := by
          rcases tri x y with h | h | h
          · exact absurd h hxy
          · exact h
          · exact absurd h hyx
        obtain ⟨i1, i2⟩ := mg_facts f b s m xs ys (by simp at hn ⊢; omega) h1.2 h2.2
        have sub := mg_sub f b s m xs ys (by simp at hn ⊢; omega)
        constructor
        · split
          · exact List.pairwise_cons.2 ⟨fun z hz => (sub z hz).elim (h1.1 z) (h2.1 z), i1⟩
          · exact i1
        · intro z
          rw [List.mem_append, i2]
          have hzz : z ∈ (if b = true then [x] else []) ↔ b = true ∧ z = x := by cases b <;> simp
          rw [hzz]
          unfold Keeps
          rw [List.mem_cons (a := z) (b := x), List.mem_cons (a := z) (b := x)]
          by_cases e : z = x
          · have hn3 : z ∉ xs := fun h => ltN (h1.1 z h) e.symm
            have hn4 : z ∉ ys := fun h => ltN (h2.1 z h) e.symm
            simp [e, (e ▸ hn3 : x ∉ xs), (e ▸ hn4 : x ∉ ys)]
          · simp [e]
theorem rising_mg (f b s : Bool) {l r : List Tx} (hl : Rising l) (hr : Rising r) : Rising (mg f b s l r) := (mg_facts f b s _ l r (Nat.le_refl _) hl hr).1
theorem mem_mg (f b s : Bool) {l r : List Tx} (hl : Rising l) (hr : Rising r) (z : Tx) : z ∈ mg f b s l r ↔ Keeps f b s l r z := (mg_facts f b s _ l r (Nat.le_refl _) hl hr).2 z
theorem mg_length (f b s : Bool) : ∀ (n : Nat) (l r : List Tx), l.length + r.length ≤ n → (mg f b s l r).length ≤ l.length + r.length
  | _, [], [], _ => by simp [mg]
  | n, x :: xs, [], hn => by
    obtain ⟨m, rfl⟩ : ∃ m, n = m + 1 := ⟨n - 1, by simp at hn; omega⟩
    have := mg_length f b s m xs [] (by simp at hn ⊢; omega)
    rw [mg]; cases f <;> simp at this ⊢ <;> omega
  | n, [], y :: ys, hn => by
    obtain ⟨m, rfl⟩ : ∃ m, n = m + 1 := ⟨n - 1, by simp at hn; omega⟩
    have := mg_length f b s m [] ys (by simp at hn ⊢; omega)
    rw [mg]; cases s <;> simp at this ⊢ <;> omega
  | n, x :: xs, y :: ys, hn => by
    obtain ⟨m, rfl⟩ : ∃ m, n = m + 1 := ⟨n - 1, by simp at hn; omega⟩
    have h1 := mg_length f b s m xs (y :: ys) (by simp at hn ⊢; omega)
    have h2 := mg_length f b s m (x :: xs) ys (by simp at hn ⊢; omega)
    have h3 := mg_length f b s m xs ys (by simp at hn ⊢; omega)
    rw [mg]
    split
    · cases f <;> simp at h1 ⊢ <;> omega
    · split
      · cases s <;> simp at h2 ⊢ <;> omega
      · cases b <;> simp at h3 ⊢ <;> omega
/-- The set with more; without some; what both have. -/
theorem mg_union (l r : List Tx) : mg true true true (ofS l) (ofS r) = ofS (l ++ r) :=
  ofS_unique (rising_mg _ _ _ (rising_ofS l) (rising_ofS r)) fun x => by
    rw [mem_mg _ _ _ (rising_ofS l) (rising_ofS r)]
    unfold Keeps
    simp only [mem_ofS, List.mem_append]
    by_cases h1 : x ∈ l <;> by_cases h2 : x ∈ r <;> simp [h1, h2]
theorem mg_diff (a r : List Tx) (ha : Rising a) : mg true false false a (ofS r) = a.filter (fun x => !r.contains x) :=
  rising_ext (rising_mg _ _ _ ha (rising_ofS r)) (rising_sub List.filter_sublist ha) fun x => by
    rw [mem_mg _ _ _ ha (rising_ofS r)]
    unfold Keeps
    simp [mem_ofS]
theorem mg_inter (a r : List Tx) (ha : Rising a) : mg false true false a (ofS r) = a.filter (fun x => r.contains x) :=
  rising_ext (rising_mg _ _ _ ha (rising_ofS r)) (rising_sub List.filter_sublist ha) fun x => by
    rw [mem_mg _ _ _ ha (rising_ofS r)]
    unfold Keeps
    simp [mem_ofS]

/-! The reference's own text: a place sought from the end. -/
theorem ins_at : ∀ (l : List Tx) (x : Tx) (k : Nat), Rising l → k ≤ l.length → (∀ j (hj : j < l.length), j < k → ¬ x < l[j]) → (∀ j (hj : j < l.length), k ≤ j → x < l[j]) →
    ins x l = if h : 0 < k ∧ ∃ hk : k - 1 < l.length, l[k - 1] = x then l else l.take k ++ x :: l.drop k
  | [], x, k, _, hk, _, _ => by
    obtain rfl : k = 0 := by simpa using hk
    rw [dif_neg (by simp)]; rfl
  | y :: r, x, 0, hr, hk, h1, h2 => by
    have hxy := h2 0 (by simp) (Nat.le_refl _)
    rw [dif_neg (by simp)]
    unfold ins
    rw [if_neg (ltA (by simpa using hxy)), if_neg (fun e => ltN (by simpa using hxy) e.symm)]
    rfl
  | y :: r, x, k + 1, hr, hk, h1, h2 => by
    have hp := List.pairwise_cons.1 hr
    have hyx : ¬ x < y := by have := h1 0 (by simp) (by omega); simpa using this
    have ih := ins_at r x k hp.2 (by simpa using hk) (fun j hj hjk => by have := h1 (j + 1) (by simp; omega) (by omega); simpa using this) (fun j hj hjk => by have := h2 (j + 1) (by simp; omega) (by omega); simpa using this)
    unfold ins
    rcases tri x y with h | rfl | h
    · exact absurd h hyx
    · rw [if_neg (ltI x), if_pos rfl]
      have hk0 : k = 0 := by
        cases k with
        | zero => rfl
        | succ k =>
          exfalso
          have h0 : 0 < r.length := by simp at hk; omega
          have := h1 1 (by simp; omega) (by omega)
          exact this (by simpa using hp.1 r[0] (List.getElem_mem h0))
      subst hk0
      rw [dif_pos ⟨by omega, by simp, by simp⟩]
    · rw [if_pos h, ih]
      have hne : y ≠ x := ltN h
      by_cases hc : 0 < k ∧ ∃ hk : k - 1 < r.length, r[k - 1] = x
      · rw [dif_pos hc, dif_pos]
        obtain ⟨c0, c1, c2⟩ := hc
        refine ⟨by omega, by simp; omega, ?_⟩
        obtain ⟨q, rfl⟩ : ∃ q, k = q + 1 := ⟨k - 1, by omega⟩
        simpa using c2
      · rw [dif_neg hc, dif_neg]
        · rfl
        · rintro ⟨_, c1, c2⟩
          cases k with
          | zero => simp at c2; exact hne c2
          | succ q => exact hc ⟨by omega, by simp at c1 ⊢; omega, by simpa using c2⟩
/-- The row while it is shifted: places below k as they were, one copy, the rest moved on. -/
def shift (l : List Tx) (k : Nat) : List Tx := l.take k ++ (if h : k < l.length then l[k] else []) :: l.drop k
theorem shift_length (l : List Tx) (k : Nat) (hk : k ≤ l.length) : (shift l k).length = l.length + 1 := by simp [shift]; omega
theorem shift_start (l : List Tx) : shift l l.length = l ++ [[]] := by simp [shift]
theorem shift_get {l : List Tx} {k : Nat} (h0 : 0 < k) (hk : k ≤ l.length) : (shift l k)[k - 1]? = some (l[k - 1]'(by omega)) := by
  unfold shift
  rw [List.getElem?_append_left (by simp; omega), List.getElem?_take, if_pos (by omega), List.getElem?_eq_getElem (by omega)]
theorem shift_set {l : List Tx} {k : Nat} (h0 : 0 < k) (hk : k ≤ l.length) : (shift l k).set k (l[k - 1]'(by omega)) = shift l (k - 1) := by
  unfold shift
  obtain ⟨q, rfl⟩ : ∃ q, k = q + 1 := ⟨k - 1, by omega⟩
  have hq : q < l.length := by omega
  rw [List.set_append_right _ _ (by simp; omega), dif_pos (show q + 1 - 1 < l.length by omega)]
  simp only [List.length_take, Nat.add_sub_cancel]
  rw [show q + 1 - min (q + 1) l.length = 0 by omega, List.set_cons_zero, List.take_succ_eq_append_getElem hq, List.append_assoc, List.drop_eq_getElem_cons hq]
  rfl
theorem shift_end {l : List Tx} {k : Nat} (hk : k ≤ l.length) (x : Tx) : (shift l k).set k x = l.take k ++ x :: l.drop k := by
  unfold shift
  rw [List.set_append_right _ _ (by simp; omega)]
  simp only [List.length_take]
  rw [show k - min k l.length = 0 by omega, List.set_cons_zero]
end Go.Proofs.YtfbjmhipjfjaeaaGreatDoor.Pl

namespace Go.Proofs.YtfbjmhipjfjaeaaGreatDoor.Pl
set_option linter.unusedVariables false

structure Fl where
  text : Tx
  sync : Nat
structure Ch where
  kind : Nat
  src : Tx
  dst : Tx
  file : Nat
abbrev Nm := List (Tx × Nat)
def find : Nm → Tx → Option Nat
  | [], _ => none
  | p :: r, n => if p.1 = n then some p.2 else find r n
def wo (l : Nm) (n : Tx) : Nm := l.filter fun p => decide (p.1 ≠ n)
def insF (n : Tx) (f : Nat) : Nm → Nm
  | [] => [(n, f)]
  | p :: r => if n < p.1 then (n, f) :: p :: r else p :: insF n f r
def wi (l : Nm) (n : Tx) (f : Nat) : Nm := insF n f (wo l n)
def change (l : Nm) (c : Ch) : Nm := if c.kind = 1 then wi l c.src c.file else if c.kind = 2 then wi (wo l c.src) c.dst c.file else wo l c.src
def RisN (l : Nm) : Prop := l.Pairwise fun a b => a.1 < b.1
theorem find_mem : ∀ {l : Nm} {n : Tx} {f : Nat}, find l n = some f → (n, f) ∈ l
  | [], _, _, h => by simp [find] at h
  | p :: r, n, f, h => by
    unfold find at h
    split at h
    next e => obtain ⟨a, b⟩ := p; simp only [Option.some.injEq] at h; subst h; simp only at e; subst e; simp
    next e => exact List.mem_cons_of_mem _ (find_mem h)
theorem find_of_mem : ∀ {l : Nm} {n : Tx} {f : Nat}, RisN l → (n, f) ∈ l → find l n = some f
  | [], _, _, _, h => by simp at h
  | p :: r, n, f, hr, h => by
    have h1 := List.pairwise_cons.1 hr
    unfold find
    rcases List.mem_cons.1 h with h | h
    · subst h; simp
    · have hlt := h1.1 _ h
      rw [if_neg (ltN hlt)]
      exact find_of_mem h1.2 h
theorem find_wo : ∀ (l : Nm) (n k : Tx), find (wo l n) k = if k = n then none else find l k
  | [], n, k => by simp [wo, find]
  | p :: r, n, k => by
    unfold wo
    rw [List.filter_cons]
    have ih := find_wo r n k
    unfold wo at ih
    by_cases e : p.1 = n
    · rw [if_neg (by simp [e]), ih]
      by_cases e2 : k = n
      · simp [e2]
      · rw [if_neg e2, if_neg e2]; conv => rhs; unfold find
        rw [if_neg (by rw [e]; exact fun h => e2 h.symm)]
    · rw [if_pos (by simp [e])]
      conv => lhs; unfold find
      rw [ih]
      by_cases e2 : k = n
      · subst e2; simp [e]
      · rw [if_neg e2, if_neg e2]; conv => rhs; unfold find
theorem mem_wo {l : Nm} {n : Tx} {p : Tx × Nat} : p ∈ wo l n ↔ p ∈ l ∧ p.1 ≠ n := by simp [wo]
theorem mem_insF {n : Tx} {f : Nat} {p : Tx × Nat} : ∀ {l : Nm}, p ∈ insF n f l ↔ p = (n, f) ∨ p ∈ l
  | [] => by simp [insF]
  | q :: r => by
    unfold insF
    split
    · simp
    · rw [List.mem_cons, mem_insF, List.mem_cons]
      exact ⟨fun h => h.elim (fun e => .inr (.inl e)) (fun h => h.elim .inl (fun h => .inr (.inr h))), fun h => h.elim (fun e => .inr (.inl e)) (fun h => h.elim .inl (fun h => .inr (.inr h)))⟩
theorem find_insF {n : Tx} {f : Nat} {k : Tx} : ∀ {l : Nm}, find l n = none → find (insF n f l) k = if k = n then some f else find l k
  | [], _ => by
    by_cases e : k = n
    · subst e; simp [insF, find]
    · simp [insF, find, e]; exact fun h => e h.symm
  | p :: r, h => by
    unfold find at h
    split at h
    · cases h
    next hp =>
    unfold insF
    split
    · conv => lhs; unfold find
      by_cases e : k = n
      · rw [if_pos e.symm, if_pos e]
      · rw [if_neg (fun h => e h.symm), if_neg e]
    · conv => lhs; unfold find
      rw [find_insF h]
      by_cases e : k = n
      · rw [if_pos e, if_neg (by rw [e]; exact hp), if_pos e]
      · rw [if_neg e, if_neg e]; conv => rhs; unfold find
theorem find_wi (l : Nm) (n k : Tx) (f : Nat) : find (wi l n f) k = if k = n then some f else find l k := by
  unfold wi
  rw [find_insF (by rw [find_wo]; simp), find_wo]
  by_cases e : k = n <;> simp [e]
theorem ris_wo {l : Nm} (h : RisN l) (n : Tx) : RisN (wo l n) := List.Pairwise.filter _ h
theorem ris_insF {n : Tx} {f : Nat} : ∀ {l : Nm}, RisN l → (∀ p ∈ l, p.1 ≠ n) → RisN (insF n f l)
  | [], _, _ => by simp [insF, RisN]
  | p :: r, h, hn => by
    have h1 := List.pairwise_cons.1 h
    unfold insF
    split
    next hlt =>
      refine List.pairwise_cons.2 ⟨fun q hq => ?_, h⟩
      rcases List.mem_cons.1 hq with rfl | hq
      · exact hlt
      · exact ltT hlt (h1.1 q hq)
    next hlt =>
      have hpn : p.1 < n := (tri p.1 n).elim id fun h => h.elim (fun e => absurd e (hn p (by simp))) (fun h => absurd h hlt)
      refine List.pairwise_cons.2 ⟨fun q hq => ?_, ris_insF h1.2 fun q hq => hn q (by simp [hq])⟩
      rcases mem_insF.1 hq with rfl | hq
      · exact hpn
      · exact h1.1 q hq
theorem ris_wi {l : Nm} (h : RisN l) (n : Tx) (f : Nat) : RisN (wi l n f) := ris_insF (ris_wo h n) fun p hp => (mem_wo.1 hp).2
theorem len_insF (n : Tx) (f : Nat) : ∀ l : Nm, (insF n f l).length = l.length + 1
  | [] => rfl
  | p :: r => by unfold insF; split <;> simp [len_insF n f r]
theorem snd_insF {n : Tx} {f : Nat} : ∀ {l : Nm}, ((insF n f l).map (·.2)).Perm (f :: l.map (·.2))
  | [] => by simp [insF]
  | p :: r => by
    unfold insF
    split
    · simp
    · rw [List.map_cons, List.map_cons]
      exact (List.Perm.cons _ (snd_insF (l := r))).trans (List.Perm.swap _ _ _)
theorem inj_wo {l : Nm} (h : (l.map (·.2)).Nodup) (n : Tx) : ((wo l n).map (·.2)).Nodup := (List.Sublist.map _ List.filter_sublist).nodup h
theorem inj_wi {l : Nm} (h : (l.map (·.2)).Nodup) {n : Tx} {f : Nat} (hf : f ∉ (wo l n).map (·.2)) : ((wi l n f).map (·.2)).Nodup := by
  unfold wi
  rw [snd_insF.nodup_iff, List.nodup_cons]
  exact ⟨hf, inj_wo h n⟩
/-- How the names' number changes. -/
theorem len_wo {l : Nm} (h : RisN l) (n : Tx) : (wo l n).length = if (find l n).isSome then l.length - 1 else l.length := by
  induction l with
  | nil => simp [wo, find]
  | cons p r ih =>
    have h1 := List.pairwise_cons.1 h
    have ih := ih h1.2
    unfold wo at ih ⊢
    rw [List.filter_cons]
    unfold find
    by_cases e : p.1 = n
    · rw [if_neg (by simp [e]), if_pos e]
      have hnone : find r n = none := by
        cases hf : find r n with
        | none => rfl
        | some f => exact absurd (h1.1 _ (find_mem hf)) (by simp only; rw [e]; exact ltI n)
      rw [ih, hnone]; simp
    · rw [if_pos (by simp [e]), if_neg e, List.length_cons, ih]
      by_cases hs : (find r n).isSome
      · have : 0 < r.length := by
          obtain ⟨f, hf⟩ := Option.isSome_iff_exists.1 hs
          exact List.length_pos_of_mem (find_mem hf)
        rw [if_pos hs, if_pos hs]; simp; omega
      · rw [if_neg hs, if_neg hs]; simp
theorem len_wi {l : Nm} (h : RisN l) (n : Tx) (f : Nat) : (wi l n f).length = if (find l n).isSome then l.length else l.length + 1 := by
  unfold wi
  rw [len_insF, len_wo h]
  by_cases hs : (find l n).isSome
  · have : 0 < l.length := by
      obtain ⟨f, hf⟩ := Option.isSome_iff_exists.1 hs
      exact List.length_pos_of_mem (find_mem hf)
    rw [if_pos hs, if_pos hs]; omega
  · rw [if_neg hs, if_neg hs]
theorem inj_two : ∀ {l : Nm}, (l.map (·.2)).Nodup → ∀ {p q : Tx × Nat}, p ∈ l → q ∈ l → p.2 = q.2 → p = q
  | [], _, p, q, hp, _, _ => by simp at hp
  | x :: r, h, p, q, hp, hq, e => by
    have h1 := List.nodup_cons.1 h
    have hm : ∀ y ∈ r, y.2 ≠ x.2 := fun y hy e => h1.1 (List.mem_map.2 ⟨y, hy, e⟩)
    rcases List.mem_cons.1 hp with hp1 | hp1
    · rcases List.mem_cons.1 hq with hq1 | hq1
      · rw [hp1, hq1]
      · exact absurd (by rw [← e, hp1]) (hm q hq1)
    · rcases List.mem_cons.1 hq with hq1 | hq1
      · exact absurd (by rw [e, hq1]) (hm p hp1)
      · exact inj_two h1.2 hp1 hq1 e
/-- A change that may be made here. -/
def okc (N : Nat) (l : Nm) (c : Ch) : Prop := (c.kind = 1 ∧ c.file < N ∧ c.src ≠ [] ∧ c.file ∉ l.map (·.2)) ∨ (c.kind = 2 ∧ find l c.src = some c.file ∧ c.dst ≠ [] ∧ c.src ≠ c.dst) ∨ (c.kind = 3 ∧ c.dst = [])
def Sound (N : Nat) : Nm → List Ch → Prop
  | _, [] => True
  | l, c :: cs => okc N l c ∧ Sound N (change l c) cs
structure Good (N : Nat) (l : Nm) : Prop where
  ris : RisN l
  inj : (l.map (·.2)).Nodup
  lt : ∀ p ∈ l, p.2 < N
theorem Good.change {N : Nat} {l : Nm} (h : Good N l) {c : Ch} (hc : okc N l c) : Good N (change l c) := by
  unfold Pl.change
  rcases hc with ⟨e, h1, h2, h3⟩ | ⟨e, h1, h2, h4⟩ | ⟨e, -⟩
  · rw [if_pos e]
    refine ⟨ris_wi h.ris _ _, inj_wi h.inj fun hm => ?_, fun p hp => ?_⟩
    · obtain ⟨q, hq, e2⟩ := List.mem_map.1 hm
      exact h3 (List.mem_map.2 ⟨q, (mem_wo.1 hq).1, e2⟩)
    · rcases mem_insF.1 hp with rfl | hp
      · exact h1
      · exact h.lt p (mem_wo.1 hp).1
  · rw [if_neg (by omega), if_pos e]
    have hg := find_mem h1
    refine ⟨ris_wi (ris_wo h.ris _) _ _, inj_wi (inj_wo h.inj _) fun hm => ?_, fun p hp => ?_⟩
    · obtain ⟨q, hq, e2⟩ := List.mem_map.1 hm
      have hq1 := (mem_wo.1 hq).1
      have hq2 := mem_wo.1 hq1
      -- two names of one file
      have : q = (c.src, c.file) := inj_two h.inj hq2.1 hg e2
      rw [this] at hq2
      exact hq2.2 rfl
    · rcases mem_insF.1 hp with rfl | hp
      · exact h.lt (c.src, c.file) hg
      · exact h.lt p (mem_wo.1 (mem_wo.1 hp).1).1
  · rw [if_neg (by omega), if_neg (by omega)]
    exact ⟨ris_wo h.ris _, inj_wo h.inj _, fun p hp => h.lt p (mem_wo.1 hp).1⟩
theorem Sound.mono {N M : Nat} (hN : N ≤ M) : ∀ {cs : List Ch} {l : Nm}, Sound N l cs → Sound M l cs
  | [], _, _ => trivial
  | c :: cs, l, h => ⟨by rcases h.1 with ⟨e, h1, h2⟩ | h1 | h1; exact .inl ⟨e, by omega, h2⟩; exact .inr (.inl h1); exact .inr (.inr h1), h.2.mono hN⟩
theorem Sound.snoc {N : Nat} : ∀ {cs : List Ch} {l : Nm} {c : Ch}, Sound N l cs → okc N (cs.foldl change l) c → Sound N l (cs ++ [c])
  | [], _, _, _, h => ⟨h, trivial⟩
  | d :: cs, l, c, hs, h => ⟨hs.1, hs.2.snoc h⟩
theorem Sound.good {N : Nat} : ∀ {cs : List Ch} {l : Nm}, Good N l → Sound N l cs → ∀ i, Good N ((cs.take i).foldl change l)
  | [], l, h, _, i => by simpa using h
  | c :: cs, l, h, hs, 0 => by simpa using h
  | c :: cs, l, h, hs, i + 1 => by
    rw [List.take_succ_cons, List.foldl_cons]
    exact Sound.good (h.change hs.1) hs.2 i
theorem Sound.at {N : Nat} : ∀ {cs : List Ch} {l : Nm}, Sound N l cs → ∀ {i : Nat} {c : Ch}, cs[i]? = some c → okc N ((cs.take i).foldl change l) c
  | [], _, _, i, c, h => by simp at h
  | d :: cs, l, hs, 0, c, h => by simp at h; subst h; exact hs.1
  | d :: cs, l, hs, i + 1, c, h => by
    rw [List.take_succ_cons, List.foldl_cons]
    exact Sound.at hs.2 (by simpa using h)
theorem Sound.files {N : Nat} : ∀ {cs : List Ch} {l : Nm}, Sound N l cs → ∀ c ∈ cs, c.kind = 1 → c.file < N
  | [], _, _, c, h, _ => by simp at h
  | d :: cs, l, hs, c, h, hk => by
    rcases List.mem_cons.1 h with rfl | h
    · rcases hs.1 with ⟨_, h1, _⟩ | ⟨e, _⟩ | ⟨e, _⟩
      · exact h1
      · omega
      · omega
    · exact Sound.files hs.2 c h hk
/-- No more names than files. -/
theorem nodup_lt : ∀ (N : Nat) (l : List Nat), l.Nodup → (∀ x ∈ l, x < N) → l.length ≤ N
  | 0, l, _, h => by
    cases l with
    | nil => simp
    | cons x r => exact absurd (h x (by simp)) (by omega)
  | N + 1, l, hn, h => by
    have h2 := nodup_lt N (l.filter fun x => decide (x ≠ N)) (List.Pairwise.filter _ hn) fun x hx => by
      have := List.mem_filter.1 hx
      have h3 := h x this.1
      have : x ≠ N := by simpa using this.2
      omega
    have h3 : ∀ m : List Nat, m.Nodup → m.length ≤ (m.filter fun x => decide (x ≠ N)).length + 1 := by
      intro m
      induction m with
      | nil => simp
      | cons x r ih =>
        intro hm
        have h1 := List.nodup_cons.1 hm
        rw [List.filter_cons]
        by_cases e : x = N
        · rw [if_neg (by simp [e])]
          have : (r.filter fun x => decide (x ≠ N)) = r := List.filter_eq_self.2 fun y hy => by
            simp only [decide_eq_true_eq]; intro e2; exact h1.1 (by rw [e, ← e2]; exact hy)
          rw [this]; simp
        · rw [if_pos (by simp [e])]
          have := ih h1.2
          simp only [List.length_cons]; omega
    have := h3 l hn
    omega
theorem Good.few {N : Nat} {l : Nm} (h : Good N l) : l.length ≤ N := by
  have := nodup_lt N (l.map (·.2)) h.inj fun x hx => by
    obtain ⟨p, hp, rfl⟩ := List.mem_map.1 hx
    exact h.lt p hp
  simpa using this
/-- The disk: all files that ever were, the names, the lasting ones, the open changes, the plan. -/
structure Dk where
  files : List Fl
  names : Nm
  last : Nm
  opn : List Ch
  plan : List (Int × Int × Int)
  steps : Nat
  down : Bool
def Dk.new : Dk := ⟨[], [], [], [], [], 0, false⟩
def Dk.hit (S : Dk) : Option (Int × Int × Int) := S.plan.find? fun p => decide (p.1 = (S.steps : Int) + 1)
def Dk.faultE (S : Dk) : Nat := match S.hit with
  | none => 0
  | some p => if p.2.1 = 3 then 53 else 52
def Dk.faultN (S : Dk) : Int := match S.hit with
  | none => 0
  | some p => if p.2.1 = 2 then p.2.2 else 0
def Dk.faultS (S : Dk) : Dk := { S with steps := S.steps + 1, down := S.down || match S.hit with
  | none => false
  | some p => decide (p.2.1 = 3) }
def Dk.askE (S : Dk) (n : Tx) : Nat := if S.down = true then 53 else if n = [] then 1 else match find S.names n with
  | none => 50
  | some _ => 0
def Dk.turn (S : Dk) (c : Ch) : Dk := { S with names := change S.names c, opn := S.opn ++ [c] }
def Dk.createE (S : Dk) (n : Tx) : Nat := if S.askE n = 0 then 51 else if S.askE n ≠ 50 then S.askE n else S.faultE
def Dk.createS (S : Dk) (n : Tx) : Dk := if S.askE n ≠ 50 then S else if S.faultE ≠ 0 then S.faultS else Dk.turn { S.faultS with files := S.files ++ [⟨[], 0⟩] } ⟨1, n, [], S.files.length⟩
def Dk.setF (S : Dk) (f : Nat) (g : Fl → Fl) : Dk := { S with files := S.files.modify f g }
def Dk.fileOf (S : Dk) (n : Tx) : Nat := (find S.names n).getD 0
/-- How many bytes an Append lays. -/
def Dk.laid (S : Dk) (s : Tx) : Nat := if S.faultE = 0 then s.length else if (s.length : Int) < S.faultN then s.length else S.faultN.toNat
def Dk.appendE (S : Dk) (n : Tx) : Nat := if S.askE n ≠ 0 then S.askE n else S.faultE
def Dk.appendN (S : Dk) (n s : Tx) : Nat := if S.askE n ≠ 0 then 0 else S.laid s
def Dk.appendS (S : Dk) (n s : Tx) : Dk := if S.askE n ≠ 0 then S else S.faultS.setF (S.fileOf n) fun f => ⟨f.text ++ s.take (S.laid s), f.sync⟩
def Dk.truncS (S : Dk) (n : Tx) (k : Int) : Dk := if S.askE n ≠ 0 then S else if S.faultE ≠ 0 then S.faultS else S.faultS.setF (S.fileOf n) fun f => ⟨f.text.take k.toNat, min f.sync k.toNat⟩
def Dk.syncS (S : Dk) (n : Tx) : Dk := if S.askE n ≠ 0 then S else if S.faultE ≠ 0 then S.faultS else S.faultS.setF (S.fileOf n) fun f => ⟨f.text, f.text.length⟩
def Dk.renameE (S : Dk) (a b : Tx) : Nat := if S.down = true then 53 else if b = [] then 1 else S.appendE a
def Dk.renameS (S : Dk) (a b : Tx) : Dk := if b = [] ∨ S.askE a ≠ 0 then S else if S.faultE ≠ 0 ∨ a = b then S.faultS else S.faultS.turn ⟨2, a, b, S.fileOf a⟩
def Dk.removeS (S : Dk) (a : Tx) : Dk := if S.askE a ≠ 0 then S else if S.faultE ≠ 0 then S.faultS else S.faultS.turn ⟨3, a, [], 0⟩
def Dk.namesE (S : Dk) : Nat := if S.down = true then 53 else S.faultE
def Dk.namesS (S : Dk) : Dk := if S.down = true then S else if S.faultE ≠ 0 then S.faultS else { S.faultS with last := S.names, opn := [] }
/-- What is read of a name. -/
def Dk.readT (S : Dk) (n : Tx) : Tx := if S.askE n = 0 then match S.files[S.fileOf n]? with
  | some f => f.text
  | none => [] else []
def Dk.readN (S : Dk) (n : Tx) : Nat := if S.askE n = 0 then match S.files[S.fileOf n]? with
  | some f => f.sync
  | none => 0 else 0
/-- May these faults be planned behind a step? -/
def planOk : Int → List (Int × Int × Int) → Bool
  | _, [] => true
  | last, p :: r => decide (last < p.1 ∧ 1 ≤ p.2.1 ∧ p.2.1 ≤ 3 ∧ 0 ≤ p.2.2 ∧ (p.2.2 ≤ 0 ∨ p.2.1 = 2)) && planOk p.1 r
def Dk.planE (S : Dk) (l : List (Int × Int × Int)) : Nat := if l.length ≤ 1024 ∧ planOk S.steps l = true then 0 else 54
def Dk.planS (S : Dk) (l : List (Int × Int × Int)) : Dk := if l.length ≤ 1024 ∧ planOk S.steps l = true then { S with plan := l } else S
/-- How many bytes more a crash leaves of the i-th file. -/
def leftB (bs : List Int) (i : Nat) (f : Fl) : Nat := min (if bs = [] then 0 else (bs.getD (i % bs.length) 0).toNat) (f.text.length - f.sync)
def cut (bs : List Int) (i : Nat) (f : Fl) : Fl := ⟨f.text.take (f.sync + leftB bs i f), f.sync + leftB bs i f⟩
def cutAll (bs : List Int) : Nm → Nat → List Fl → List Fl
  | [], _, fs => fs
  | p :: r, i, fs => cutAll bs r (i + 1) (fs.modify p.2 (cut bs i))
def Dk.left (S : Dk) (k : Int) : Nm := (S.opn.take k.toNat).foldl change S.last
def Dk.crashS (S : Dk) (k : Int) (bs : List Int) : Dk := ⟨cutAll bs (S.left k) 0 S.files, S.left k, S.left k, [], [], S.steps, false⟩
/-- What holds of every disk. -/
structure Dk.Inv (S : Dk) : Prop where
  last : Good S.files.length S.last
  snd : Sound S.files.length S.last S.opn
  names : S.names = S.opn.foldl change S.last
  plan : ∀ p ∈ S.plan, 1 ≤ p.2.1 ∧ p.2.1 ≤ 3 ∧ 0 ≤ p.2.2
  sync : ∀ f ∈ S.files, f.sync ≤ f.text.length
theorem Dk.Inv.good {S : Dk} (h : S.Inv) : Good S.files.length S.names := by
  have := h.snd.good h.last S.opn.length
  rw [List.take_length] at this
  rw [h.names]; exact this
theorem Dk.Inv.left {S : Dk} (h : S.Inv) (k : Int) : Good S.files.length (S.left k) := h.snd.good h.last _
theorem Dk.Inv.new : Dk.new.Inv := ⟨⟨List.Pairwise.nil, List.Pairwise.nil, fun p h => by simp [Dk.new] at h⟩, trivial, rfl, fun p h => by simp [Dk.new] at h, fun p h => by simp [Dk.new] at h⟩
theorem Dk.Inv.fault {S : Dk} (h : S.Inv) : S.faultS.Inv := ⟨h.last, h.snd, h.names, h.plan, h.sync⟩
theorem Dk.Inv.turn {S : Dk} (h : S.Inv) {c : Ch} (hc : okc S.files.length S.names c) : (S.turn c).Inv :=
  ⟨h.last, h.snd.snoc (by rw [← h.names]; exact hc), by show change S.names c = _; rw [Dk.turn, List.foldl_append, ← h.names]; rfl, h.plan, h.sync⟩
theorem mem_modify {α : Type} {g : α → α} : ∀ {l : List α} {k : Nat} {x : α}, x ∈ l.modify k g → x ∈ l ∨ ∃ y ∈ l, x = g y
  | [], k, x, h => by simp at h
  | a :: r, 0, x, h => by
    rw [List.modify_zero_cons] at h
    rcases List.mem_cons.1 h with rfl | h
    · exact .inr ⟨a, by simp, rfl⟩
    · exact .inl (by simp [h])
  | a :: r, k + 1, x, h => by
    rw [List.modify_succ_cons] at h
    rcases List.mem_cons.1 h with rfl | h
    · exact .inl (by simp)
    · rcases mem_modify h with h | ⟨y, hy, e⟩
      · exact .inl (by simp [h])
      · exact .inr ⟨y, by simp [hy], e⟩
theorem Dk.Inv.setF {S : Dk} (h : S.Inv) {f : Nat} {g : Fl → Fl} (hg : ∀ x ∈ S.files, (g x).sync ≤ (g x).text.length) : (S.setF f g).Inv := by
  have hl : (S.setF f g).files.length = S.files.length := by simp [Dk.setF]
  refine ⟨by rw [hl]; exact h.last, by rw [hl]; exact h.snd, h.names, h.plan, fun x hx => ?_⟩
  rcases mem_modify hx with hx | ⟨y, hy, rfl⟩
  · exact h.sync x hx
  · exact hg y hy
theorem cutAll_length (bs : List Int) : ∀ (l : Nm) (i : Nat) (fs : List Fl), (cutAll bs l i fs).length = fs.length
  | [], _, _ => rfl
  | p :: r, i, fs => by unfold cutAll; rw [cutAll_length bs r]; simp
theorem cut_sync (bs : List Int) (i : Nat) {f : Fl} (h : f.sync ≤ f.text.length) : (cut bs i f).sync = (cut bs i f).text.length := by
  simp only [cut, leftB, List.length_take]; omega
theorem cutAll_sync (bs : List Int) : ∀ (l : Nm) (i : Nat) (fs : List Fl), (∀ f ∈ fs, f.sync ≤ f.text.length) → ∀ f ∈ cutAll bs l i fs, f.sync ≤ f.text.length
  | [], _, _, h => h
  | p :: r, i, fs, h => by
    unfold cutAll
    refine cutAll_sync bs r (i + 1) _ fun f hf => ?_
    rcases mem_modify hf with hf | ⟨y, hy, rfl⟩
    · exact h f hf
    · rw [cut_sync bs i (h y hy)]; exact Nat.le_refl _
theorem Dk.Inv.crash {S : Dk} (h : S.Inv) (k : Int) (bs : List Int) : (S.crashS k bs).Inv :=
  ⟨by show Good (cutAll _ _ _ _).length _; rw [cutAll_length]; exact h.left k, trivial, rfl, fun p hp => by simp [Dk.crashS] at hp, cutAll_sync bs _ _ _ h.sync⟩
theorem askE_ok {S : Dk} {n : Tx} (h : S.askE n = 0) : S.down = false ∧ n ≠ [] ∧ find S.names n = some (S.fileOf n) := by
  unfold Dk.askE at h
  split at h
  · cases h
  next hd =>
  split at h
  · cases h
  next hn =>
  refine ⟨by simpa using hd, hn, ?_⟩
  unfold Dk.fileOf
  split at h
  · cases h
  next f hf => rw [hf]; rfl
theorem askE_new {S : Dk} {n : Tx} (h : S.askE n = 50) : S.down = false ∧ n ≠ [] ∧ find S.names n = none := by
  unfold Dk.askE at h
  split at h
  · cases h
  next hd =>
  split at h
  · cases h
  next hn =>
  refine ⟨by simpa using hd, hn, ?_⟩
  split at h
  next hf => exact hf
  · cases h
theorem Dk.Inv.fileLt {S : Dk} (h : S.Inv) {n : Tx} (ha : S.askE n = 0) : S.fileOf n < S.files.length := h.good.lt _ (find_mem (askE_ok ha).2.2)
theorem Dk.Inv.create {S : Dk} (h : S.Inv) (n : Tx) : (S.createS n).Inv := by
  unfold Dk.createS
  split
  · exact h
  next ha =>
  split
  · exact h.fault
  · obtain ⟨-, hn, hf⟩ := askE_new (S := S) (n := n) (by simpa using ha)
    refine Dk.Inv.turn (S := { S.faultS with files := S.files ++ [⟨[], 0⟩] }) ?_ ?_
    · refine ⟨?_, ?_, h.names, h.plan, fun f hf => ?_⟩
      · have := h.last
        exact ⟨this.ris, this.inj, fun p hp => by have := this.lt p hp; simp; omega⟩
      · exact h.snd.mono (by simp)
      · rcases List.mem_append.1 hf with hf | hf
        · exact h.sync f hf
        · rw [List.mem_singleton.1 hf]; exact Nat.le_refl _
    · refine .inl ⟨rfl, by simp, hn, fun hm => ?_⟩
      obtain ⟨p, hp, e⟩ := List.mem_map.1 hm
      have := h.good.lt p hp
      simp only at e; omega
theorem Dk.Inv.append {S : Dk} (h : S.Inv) (n s : Tx) : (S.appendS n s).Inv := by
  unfold Dk.appendS
  split
  · exact h
  · exact h.fault.setF fun x hx => by have := h.sync x hx; simp only [List.length_append]; omega
theorem Dk.Inv.trunc {S : Dk} (h : S.Inv) (n : Tx) (k : Int) : (S.truncS n k).Inv := by
  unfold Dk.truncS
  split
  · exact h
  split
  · exact h.fault
  · exact h.fault.setF fun x hx => by have := h.sync x hx; simp only [List.length_take]; omega
theorem Dk.Inv.syn {S : Dk} (h : S.Inv) (n : Tx) : (S.syncS n).Inv := by
  unfold Dk.syncS
  split
  · exact h
  split
  · exact h.fault
  · exact h.fault.setF fun x hx => Nat.le_refl _
theorem Dk.Inv.rename {S : Dk} (h : S.Inv) (a b : Tx) : (S.renameS a b).Inv := by
  unfold Dk.renameS
  split
  · exact h
  next h1 =>
  split
  · exact h.fault
  next h2 =>
  have ha : S.askE a = 0 := Classical.byContradiction fun hx => h1 (.inr hx)
  exact h.fault.turn (.inr (.inl ⟨rfl, (askE_ok ha).2.2, fun hb => h1 (.inl hb), fun hb => h2 (.inr hb)⟩))
theorem Dk.Inv.remove {S : Dk} (h : S.Inv) (a : Tx) : (S.removeS a).Inv := by
  unfold Dk.removeS
  split
  · exact h
  split
  · exact h.fault
  · exact h.fault.turn (.inr (.inr ⟨rfl, rfl⟩))
theorem Dk.Inv.syncNames {S : Dk} (h : S.Inv) : S.namesS.Inv := by
  unfold Dk.namesS
  split
  · exact h
  split
  · exact h.fault
  · exact ⟨h.good, trivial, rfl, h.plan, h.sync⟩
theorem planOk_all : ∀ {l : List (Int × Int × Int)} {k : Int}, planOk k l = true → ∀ p ∈ l, 1 ≤ p.2.1 ∧ p.2.1 ≤ 3 ∧ 0 ≤ p.2.2
  | [], _, _, p, hp => by simp at hp
  | q :: r, k, h, p, hp => by
    unfold planOk at h
    rw [Bool.and_eq_true, decide_eq_true_eq] at h
    rcases List.mem_cons.1 hp with rfl | hp
    · exact ⟨h.1.2.1, h.1.2.2.1, h.1.2.2.2.1⟩
    · exact planOk_all h.2 p hp
theorem Dk.Inv.set {S : Dk} (h : S.Inv) (l : List (Int × Int × Int)) : (S.planS l).Inv := by
  unfold Dk.planS
  split
  next hp => exact ⟨h.last, h.snd, h.names, planOk_all hp.2, h.sync⟩
  · exact h
def Short (l : Nm) : Prop := ∀ p ∈ l, p.1.length ≤ 33554432
def ShortC (c : Ch) : Prop := c.src.length ≤ 33554432 ∧ c.dst.length ≤ 33554432
theorem Short.wo {l : Nm} (h : Short l) (n : Tx) : Short (wo l n) := fun p hp => h p (mem_wo.1 hp).1
theorem Short.wi {l : Nm} (h : Short l) {n : Tx} (hn : n.length ≤ 33554432) (f : Nat) : Short (wi l n f) := fun p hp => by
  rcases mem_insF.1 hp with rfl | hp
  · exact hn
  · exact h p (mem_wo.1 hp).1
theorem Short.change {l : Nm} (h : Short l) {c : Ch} (hc : ShortC c) : Short (change l c) := by
  unfold Pl.change
  split
  · exact h.wi hc.1 _
  split
  · exact (h.wo _).wi hc.2 _
  · exact h.wo _
theorem Short.all : ∀ {cs : List Ch} {l : Nm}, Short l → (∀ c ∈ cs, ShortC c) → Short (cs.foldl Pl.change l)
  | [], _, h, _ => h
  | c :: cs, l, h, hc => Short.all (cs := cs) (l := Pl.change l c) (h.change (hc c (by simp))) fun d hd => hc d (by simp [hd])
/-- Nothing is too great. -/
structure Dk.Small (j : Nat) (S : Dk) : Prop where
  files : S.files.length ≤ j
  opn : S.opn.length ≤ j
  steps : S.steps ≤ j
  texts : ∀ f ∈ S.files, f.text.length ≤ j * 33554432
  plan : S.plan.length ≤ 1024
  nms : Short S.names
  lst : Short S.last
  chs : ∀ c ∈ S.opn, ShortC c
theorem Dk.Small.new : Dk.new.Small 0 := ⟨Nat.le_refl _, Nat.le_refl _, Nat.le_refl _, fun f h => by simp [Dk.new] at h, by simp [Dk.new], fun f h => by simp [Dk.new] at h, fun f h => by simp [Dk.new] at h, fun f h => by simp [Dk.new] at h⟩
theorem Dk.Small.mono {j i : Nat} {S : Dk} (h : S.Small j) (hi : j ≤ i) : S.Small i :=
  { h with files := Nat.le_trans h.files hi, opn := Nat.le_trans h.opn hi, steps := Nat.le_trans h.steps hi, texts := fun f hf => Nat.le_trans (h.texts f hf) (Nat.mul_le_mul_right _ hi) }
theorem Dk.Small.fault {j : Nat} {S : Dk} (h : S.Small j) : S.faultS.Small (j + 1) :=
  ⟨Nat.le_succ_of_le h.files, Nat.le_succ_of_le h.opn, Nat.succ_le_succ h.steps, (h.mono (Nat.le_succ j)).texts, h.plan, h.nms, h.lst, h.chs⟩
theorem Dk.Small.setF {j : Nat} {S : Dk} (h : S.Small j) {f : Nat} {g : Fl → Fl} (hg : ∀ x ∈ S.files, (g x).text.length ≤ j * 33554432) : (S.setF f g).Small j :=
  ⟨by simp [Dk.setF]; exact h.files, h.opn, h.steps, fun x hx => by
    rcases mem_modify hx with hx | ⟨y, hy, rfl⟩
    · exact h.texts x hx
    · exact hg y hy, h.plan, h.nms, h.lst, h.chs⟩
theorem Dk.Small.turn {j : Nat} {S : Dk} (h : S.Small j) (c : Ch) (hc : ShortC c) (h2 : S.opn.length + 1 ≤ j) : (S.turn c).Small j :=
  ⟨h.files, by simp [Dk.turn]; exact h2, h.steps, h.texts, h.plan, h.nms.change hc, h.lst, fun d hd => by
    rcases List.mem_append.1 hd with hd | hd
    · exact h.chs d hd
    · rw [List.mem_singleton.1 hd]; exact hc⟩
theorem Dk.Small.create {j : Nat} {S : Dk} (h : S.Small j) {n : Tx} (hn : n.length ≤ 33554432) : (S.createS n).Small (j + 1) := by
  unfold Dk.createS
  split
  · exact h.mono (by omega)
  split
  · exact h.fault
  · have := h.files
    refine Dk.Small.turn (S := { S.faultS with files := S.files ++ [⟨[], 0⟩] }) ?_ _ ⟨hn, by simp⟩ (Nat.succ_le_succ h.opn)
    refine ⟨by simp; omega, h.fault.opn, h.fault.steps, fun f hf => ?_, h.plan, h.nms, h.lst, h.chs⟩
    rcases List.mem_append.1 hf with hf | hf
    · exact h.fault.texts f hf
    · rw [List.mem_singleton.1 hf]; simp
theorem Dk.Small.append {j : Nat} {S : Dk} (h : S.Small j) (n : Tx) {s : Tx} (hs : s.length ≤ 33554432) : (S.appendS n s).Small (j + 1) := by
  unfold Dk.appendS
  split
  · exact h.mono (by omega)
  · exact h.fault.setF fun x hx => by have := h.texts x hx; simp only [List.length_append, List.length_take]; omega
theorem Dk.Small.trunc {j : Nat} {S : Dk} (h : S.Small j) (n : Tx) (k : Int) : (S.truncS n k).Small (j + 1) := by
  unfold Dk.truncS
  split
  · exact h.mono (by omega)
  split
  · exact h.fault
  · exact h.fault.setF fun x hx => by have := h.fault.texts x hx; simp only [List.length_take]; omega
theorem Dk.Small.syn {j : Nat} {S : Dk} (h : S.Small j) (n : Tx) : (S.syncS n).Small (j + 1) := by
  unfold Dk.syncS
  split
  · exact h.mono (by omega)
  split
  · exact h.fault
  · exact h.fault.setF fun x hx => h.fault.texts x hx
theorem Dk.Small.rename {j : Nat} {S : Dk} (h : S.Small j) {a b : Tx} (ha : a.length ≤ 33554432) (hb : b.length ≤ 33554432) : (S.renameS a b).Small (j + 1) := by
  unfold Dk.renameS
  split
  · exact h.mono (by omega)
  split
  · exact h.fault
  · exact h.fault.turn _ ⟨ha, hb⟩ (Nat.succ_le_succ h.opn)
theorem Dk.Small.remove {j : Nat} {S : Dk} (h : S.Small j) {a : Tx} (ha : a.length ≤ 33554432) : (S.removeS a).Small (j + 1) := by
  unfold Dk.removeS
  split
  · exact h.mono (by omega)
  split
  · exact h.fault
  · exact h.fault.turn _ ⟨ha, by simp⟩ (Nat.succ_le_succ h.opn)
theorem Dk.Small.syncNames {j : Nat} {S : Dk} (h : S.Small j) : S.namesS.Small (j + 1) := by
  unfold Dk.namesS
  split
  · exact h.mono (by omega)
  split
  · exact h.fault
  · exact ⟨h.fault.files, by simp, h.fault.steps, h.fault.texts, h.plan, h.nms, h.nms, fun c hc => by simp at hc⟩
theorem Dk.Small.set {j : Nat} {S : Dk} (h : S.Small j) (l : List (Int × Int × Int)) : (S.planS l).Small j := by
  unfold Dk.planS
  split
  next hp => exact ⟨h.files, h.opn, h.steps, h.texts, hp.1, h.nms, h.lst, h.chs⟩
  · exact h
theorem cutAll_texts (bs : List Int) (M : Nat) : ∀ (l : Nm) (i : Nat) (fs : List Fl), (∀ f ∈ fs, f.text.length ≤ M) → ∀ f ∈ cutAll bs l i fs, f.text.length ≤ M
  | [], _, _, h => h
  | p :: r, i, fs, h => by
    unfold cutAll
    refine cutAll_texts bs M r (i + 1) _ fun f hf => ?_
    rcases mem_modify hf with hf | ⟨y, hy, rfl⟩
    · exact h f hf
    · have := h y hy; simp only [cut, List.length_take]; omega
theorem Dk.Small.left {j : Nat} {S : Dk} (h : S.Small j) (k : Int) : Short (S.left k) := h.lst.all fun c hc => h.chs c (List.mem_of_mem_take hc)
theorem Dk.Small.crash {j : Nat} {S : Dk} (h : S.Small j) (k : Int) (bs : List Int) : (S.crashS k bs).Small j :=
  ⟨by show (cutAll _ _ _ _).length ≤ j; rw [cutAll_length]; exact h.files, by simp [Dk.crashS], h.steps, cutAll_texts bs _ _ _ _ h.texts, by simp [Dk.crashS], h.left k, h.left k, fun c hc => by simp [Dk.crashS] at hc⟩
end Go.Proofs.YtfbjmhipjfjaeaaGreatDoor.Pl
