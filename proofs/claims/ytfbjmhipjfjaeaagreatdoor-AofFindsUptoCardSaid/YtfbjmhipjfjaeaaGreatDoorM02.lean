/- The disk of the program: maps that lead to files; the disk's block; small walks. The disk of the program: its block and what it leads to. The disk of the program: step, find. -/
import Derived.Test.YtfbjmhipjfjaeaaGreatDoorM01
import Derived.Maps.OwnSet
import Derived.Sort.Walk0
import Derived.Deep.QuietTactic
import Derived.BigQuiet
namespace Go.Proofs.YtfbjmhipjfjaeaaGreatDoor
open Go.ChangeShapes Go.WideShapes Go.ChangeAt Go.RowKit Go.Maps
open Pl (Tx Fl Ch Nm Dk)
set_option linter.unusedVariables false

def strV (l : List UInt8) : Value := .string (str l)
theorem heap_setCell_same {w : World} {b i : Nat} {v : Value} {c : Array Value} {e : TypeId} {fz : Nat × Nat} (h : w.heap[b]? = some (.cells c e fz)) : (w.setCell ⟨b, i, none⟩ v).heap[b]? = some (.cells (c.setIfInBounds i v) e fz) := by
  simp [World.setCell, Array.getElem?_modify, h]
theorem heap_setCell_size (w : World) (a : Addr) (v : Value) : (w.setCell a v).heap.size = w.heap.size := by simp [World.setCell]
theorem strList (t : Tx) : (str t).toList = t := by rw [ByteArray.toList_eq]; rfl
theorem less_str (a b : Tx) : Op.bytesLess (str a).toList (str b).toList = decide (a < b) := by rw [strList, strList, bytesLess_eq]
theorem eq_str (a b : Tx) : ((str a).toList == (str b).toList) = decide (a = b) := by rw [strList, strList, Bool.eq_iff_iff]; simp
/-- A text that is none, or one. -/
theorem str_none (a : Tx) : ((str a).toList == ([] : List UInt8)) = decide (a = []) := by rw [strList, Bool.eq_iff_iff]; simp
theorem str_empty (a : Tx) : (str a).toList.isEmpty = decide (a = []) := by rw [strList, Bool.eq_iff_iff]; simp
theorem strKeyed : Keyed Tryz.prog 9 := string_keyed Tryz.underlying9
/-- How a file's pointer reads: by its block. -/
def ptrE : Value → Option (DataW Unit × List MemPlace)
  | .pointer none => some (.nil, [])
  | .pointer (some ⟨g, 0, none⟩) => some (.lit (.int .i64 g), [])
  | _ => none
theorem ptrE_at (g : Nat) : ptrE (.pointer (some ⟨g, 0, none⟩)) = some (.lit (.int .i64 g), []) := rfl
theorem ptrE_inv {v : Value} {d : DataW Unit} {ps : List MemPlace} (h : ptrE v = some (d, ps)) : (v = .pointer none ∧ d = .nil) ∨ ∃ g, v = .pointer (some ⟨g, 0, none⟩) ∧ d = .lit (.int .i64 g) := by
  unfold ptrE at h
  split at h
  · simp at h; exact .inl ⟨rfl, h.1.symm⟩
  · simp at h; exact .inr ⟨_, rfl, h.1.symm⟩
  · cases h
theorem ptrE_lit {v : Value} {g : Nat} {ps : List MemPlace} (h : ptrE v = some (.lit (.int .i64 g), ps)) : v = .pointer (some ⟨g, 0, none⟩) := by
  rcases ptrE_inv h with ⟨_, h2⟩ | ⟨g', rfl, h2⟩
  · cases h2
  · have : g' = g := by simp at h2; omega
    subst this; rfl
theorem ptrE_nil {v : Value} {ps : List MemPlace} (h : ptrE v = some (.nil, ps)) : v = .pointer none := by
  rcases ptrE_inv h with ⟨h1, _⟩ | ⟨g', rfl, h2⟩
  · exact h1
  · cases h2
abbrev ownsP (w : World) (b n : Nat) (D : DataW Unit) : Prop := w.ownsMap Tryz.prog 9 ptrE b n D
/-- A map's datum that leads from these names to these files' blocks. -/
structure FilesAre (D : DataW Unit) (φ : Nat → Nat) (l : Nm) : Prop where
  tidy : Maps.Tidy D
  has : ∀ k : Tx, Maps.has D (litB k) = (Pl.find l k).isSome
  at_ : ∀ (k : Tx) i, Pl.find l k = some i → D.atKey (litB k) .nil = .lit (.int .i64 (φ i))
  size : Maps.size D = l.length
theorem FilesAre.none (φ : Nat → Nat) : FilesAre (.map []) φ [] := ⟨Maps.tidy_empty, fun k => rfl, fun k i h => by simp [Pl.find] at h, rfl⟩
theorem FilesAre.put {D : DataW Unit} {φ : Nat → Nat} {l : Nm} (h : FilesAre D φ l) (hr : Pl.RisN l) (k : Tx) (f : Nat) : FilesAre (D.put (litB k) (.lit (.int .i64 (φ f)))) φ (Pl.wi l k f) := by
  have hm := h.tidy.isMap
  refine ⟨h.tidy.put (litB_key _) _, fun k' => ?_, fun k' i hi => ?_, ?_⟩
  · rw [Pl.find_wi]
    by_cases e : k' = k
    · subst e; rw [Maps.has_put_same hm (litB_key _)]; simp
    · rw [Maps.has_put_other (fun h => e (litB_inj h)), h.has, if_neg e]
  · rw [Pl.find_wi] at hi
    by_cases e : k' = k
    · subst e; rw [if_pos rfl] at hi; cases hi; exact Maps.atKey_put_same hm (litB_key _) _ _
    · rw [if_neg e] at hi
      rw [Maps.atKey_put_other (fun h => e (litB_inj h))]
      exact h.at_ k' i hi
  · rw [Maps.size_put h.tidy, h.has, h.size, Pl.len_wi hr]
theorem FilesAre.del {D : DataW Unit} {φ : Nat → Nat} {l : Nm} (h : FilesAre D φ l) (hr : Pl.RisN l) (k : Tx) : FilesAre (D.del (litB k)) φ (Pl.wo l k) := by
  refine ⟨h.tidy.del _, fun k' => ?_, fun k' i hi => ?_, ?_⟩
  · rw [Pl.find_wo]
    by_cases e : k' = k
    · subst e; rw [Maps.has_del_same]; simp
    · rw [Maps.has_del_other (fun h => e (litB_inj h)), h.has, if_neg e]
  · rw [Pl.find_wo] at hi
    by_cases e : k' = k
    · subst e; simp at hi
    · rw [if_neg e] at hi
      rw [Maps.atKey_del_other (fun h => e (litB_inj h))]
      exact h.at_ k' i hi
  · have h1 := Maps.size_del (k := litB k) h.tidy
    rw [h.has, h.size] at h1
    rw [Pl.len_wo hr]
    by_cases hs : (Pl.find l k).isSome
    · rw [if_pos hs] at h1 ⊢; omega
    · rw [if_neg hs] at h1 ⊢; omega
theorem FilesAre.turn {D : DataW Unit} {φ ψ : Nat → Nat} {l : Nm} (h : FilesAre D φ l) (hψ : ∀ p ∈ l, ψ p.2 = φ p.2) : FilesAre D ψ l :=
  ⟨h.tidy, h.has, fun k i hi => by rw [h.at_ k i hi, hψ _ (Pl.find_mem hi)], h.size⟩
/-- Block b is a map that leads from these names to these files' blocks. -/
def FMap (w : World) (b : Nat) (φ : Nat → Nat) (l : Nm) : Prop := ∃ D, ownsP w b l.length D ∧ FilesAre D φ l
theorem FMap.of {w : World} {b n : Nat} {D : DataW Unit} {φ : Nat → Nat} {l : Nm} (h : ownsP w b n D) (hf : FilesAre D φ l) : FMap w b φ l := by
  obtain ⟨es, clock, hb, F, hs, hD⟩ := h
  refine ⟨D, ⟨es, clock, hb, F, ?_, hD⟩, hf⟩
  rw [← hf.size, hD, Maps.size_eq, length_sorted]
  simp
theorem FMap.lt {w : World} {b : Nat} {φ : Nat → Nat} {l : Nm} (h : FMap w b φ l) : b < w.heap.size := by obtain ⟨D, h1, _⟩ := h; exact h1.lt
theorem FMap.kept {w w' : World} {b : Nat} {φ : Nat → Nat} {l : Nm} {F : Nat → Prop} (h : FMap w b φ l) (hw : Wr F w w') (hb : ¬ F b) : FMap w' b φ l := by
  obtain ⟨D, h1, h2⟩ := h
  exact ⟨D, ownsMap_wr h1 hw hb, h2⟩
theorem FMap.same {w w' : World} {b : Nat} {φ : Nat → Nat} {l : Nm} (h : FMap w b φ l) (hb : w'.heap[b]? = w.heap[b]?) : FMap w' b φ l := by
  obtain ⟨D, ⟨es, clock, e, r⟩, h2⟩ := h
  exact ⟨D, ⟨es, clock, hb.trans e, r⟩, h2⟩
theorem FMap.turn {w : World} {b : Nat} {φ ψ : Nat → Nat} {l : Nm} (h : FMap w b φ l) (hψ : ∀ p ∈ l, ψ p.2 = φ p.2) : FMap w b ψ l := by
  obtain ⟨D, h1, h2⟩ := h; exact ⟨D, h1, h2.turn hψ⟩
theorem FMap.notCells {w : World} {b : Nat} {φ : Nat → Nat} {l : Nm} (h : FMap w b φ l) {g : Nat} {cur : Array Value} {e : TypeId} {z : Nat × Nat} (hg : w.heap[g]? = some (.cells cur e z)) : g ≠ b := by
  obtain ⟨D, h1, _⟩ := h; exact ownsMap_notCells h1 hg
theorem FMap.made (w : World) (φ : Nat → Nat) : FMap (w.alloc (.map #[] 0)) w.heap.size φ [] := ⟨_, World.ownsMap_made w _ _ _, FilesAre.none φ⟩
theorem wr_turned {w w' : World} {b : Nat} (h : w.mapTurned w' b) : Wr (fun k => k = b) w w' := by
  have hg := h.grown
  exact (Wr.refl _ w).grown hg (fun k e => .inl (by simpa using e.symm))
/-! ### a change of names -/
def chCells (φ : Nat → Nat) (c : Ch) : List Value :=
  if c.kind = 1 then [.bool true, .string ⟨#[]⟩, strV c.src, .pointer (some ⟨φ c.file, 0, none⟩)] else [.bool false, strV c.src, strV c.dst, .pointer none]
def DoneEnd (m : Nat) (φ : Nat → Nat) (l : Nm) (w : World) (e : Ending) (w' : World) : Prop := e = .returned (.tuple #[]) ∧ FMap w' m φ l ∧ Wr (fun k => k = m) w w'
theorem zeroP (w : World) : (zeroValue 92).run Tryz.prog w = .ok (.pointer none) w := by kernel_rfl
theorem key_str {k : Tx} (h : k.length ≤ 33554432) : keyOf Tryz.prog 9 (strV k) = some (litB k) := by
  have := WideMaps.keyOf_string_mk (P := Tryz.prog) Tryz.underlying9 (s := str k) (by rw [str_size]; unfold maxLen; omega)
  rw [strV, this]; rfl
set_option maxHeartbeats 400000 in
theorem do_create {w : World} {m : Nat} {φ : Nat → Nat} {l : Nm} (h : FMap w m φ l) (hr : Pl.RisN l) (hl : l.length ≤ 1099511627776) (k : Tx) (f : Nat) (hk : k.length ≤ 33554432) :
    Calls Tryz.prog 61 #[.agg #[.bool true, .string ⟨#[]⟩, strV k, .pointer (some ⟨φ f, 0, none⟩)], .map (some m)] w (DoneEnd m φ (Pl.wi l k f) w) := by
  obtain ⟨D, hown, hf⟩ := h
  have HF := Lib.hid (hf.put hr k f)
  have hk2 := key_str hk
  unfold strV at hk2 ⊢
  clear hf
  go_enter Tryz.func61, Tryz.ntmps61
  go_wp2_with (at_mapUpdate; refine wpList_mapUpdate_in _ rfl _ _ _ 88 rfl 9 92 strKeyed Tryz.underlying88 ptrE m l.length D rfl (hown.alloc _) (by unfold maxLen; omega) _ _ _ rfl rfl hk2 _ _ (ptrE_at (φ f)) ?_; intro w2 hown2 ht2)
  go_end0
  exact ⟨rfl, FMap.of hown2 HF.out, ((Wr.refl _ _).alloc _).trans (wr_turned ht2) (Grew.refl _ _)⟩
set_option maxHeartbeats 400000 in
theorem do_remove {w : World} {m : Nat} {φ : Nat → Nat} {l : Nm} (h : FMap w m φ l) (hr : Pl.RisN l) (k : Tx) (hk : k.length ≤ 33554432) :
    Calls Tryz.prog 61 #[.agg #[.bool false, strV k, .string ⟨#[]⟩, .pointer none], .map (some m)] w (DoneEnd m φ (Pl.wo l k) w) := by
  obtain ⟨D, hown, hf⟩ := h
  have HF := Lib.hid (hf.del hr k)
  have hk2 := key_str hk
  unfold strV at hk2 ⊢
  clear hf
  go_enter Tryz.func61, Tryz.ntmps61
  go_wp2_with (at_delete; refine wpList_delete_own _ rfl _ _ 88 9 rfl 92 strKeyed Tryz.underlying88 ptrE m l.length D rfl (hown.alloc _) _ _ rfl hk2 ?_; intro w2 hown2 ht2)
  go_end0
  exact ⟨rfl, FMap.of hown2 HF.out, ((Wr.refl _ _).alloc _).trans (wr_turned ht2) (Grew.refl _ _)⟩
theorem box_kept {w w2 : World} {m : Nat} {c : Array Value} {e : TypeId} {g : Nat} (h : w.heap[g]? = some (.cells c e (0, 0))) (hm : m < g) (ht : w.mapTurned w2 m) : (w2.cell? ⟨g, 0, none⟩ = c[0]?) ∧ (w2.cell? ⟨g, 1, none⟩ = c[1]?) ∧ (w2.cell? ⟨g, 2, none⟩ = c[2]?) ∧ (w2.cell? ⟨g, 3, none⟩ = c[3]?) := by
  have h2 := ((wr_turned ht).block g (Array.getElem?_eq_some_iff.1 h).1 (by omega)).trans h
  refine ⟨?_, ?_, ?_, ?_⟩ <;> (simp only [World.cell?, h2]; rfl)
set_option maxRecDepth 100000 in
set_option maxHeartbeats 400000 in
theorem do_rename {w : World} {m : Nat} {φ : Nat → Nat} {l : Nm} (h : FMap w m φ l) (hr : Pl.RisN l) (hl : l.length ≤ 1099511627776) (a b : Tx) (f : Nat) (hf0 : Pl.find l a = some f) (hb0 : b ≠ []) (ha : a.length ≤ 33554432) (hb : b.length ≤ 33554432) :
    Calls Tryz.prog 61 #[.agg #[.bool false, strV a, strV b, .pointer none], .map (some m)] w (DoneEnd m φ (Pl.wi (Pl.wo l a) b f) w) := by
  obtain ⟨D, hown, hf⟩ := h
  have HF := Lib.hid ((hf.del hr a).put (Pl.ris_wo hr a) b f)
  have HA := Lib.hid (hf.at_ a f hf0)
  have hhas : Maps.has D (litB a) = true := by rw [hf.has, hf0]; rfl
  have hlen : (Pl.wo l a).length ≤ l.length := List.length_filter_le _ _
  have hka := key_str ha
  have hkb := key_str hb
  have hb1 : ((str b).toList == ([] : List UInt8)) = false := by rw [str_none, decide_eq_false hb0]
  have hb2 : (str b).toList.isEmpty = false := by rw [str_empty, decide_eq_false hb0]
  have hml := hown.lt
  have D0 := Lib.hid (heap_alloc_new w (.cells #[.bool false, strV a, strV b, .pointer none] 103))
  unfold strV at hka hkb D0 ⊢
  clear hf hf0 hb0
  go_enter Tryz.func61, Tryz.ntmps61
  go_wp2_with (first
    | (at_lookup; refine wpList_lookup_own_ok _ rfl _ _ 88 rfl 9 92 strKeyed Tryz.underlying88 ptrE (zeroP _) .nil [] rfl m l.length D rfl (hown.alloc _) _ _ rfl hka ?_; intro v ps hv; rw [HA.out] at hv; obtain rfl := ptrE_lit hv; clear hv)
    | (at_delete; refine wpList_delete_own _ rfl _ _ 88 9 rfl 92 strKeyed Tryz.underlying88 ptrE m l.length D rfl (hown.alloc _) _ _ rfl hka ?_; intro w2 hown2 ht2; obtain ⟨q0, q1, q2, q3⟩ := box_kept D0.out hml ht2)
    | (at_mapUpdate; refine wpList_mapUpdate_in _ rfl _ _ _ 88 rfl 9 92 strKeyed Tryz.underlying88 ptrE m l.length _ rfl hown2 (by unfold maxLen; omega) _ _ _ rfl rfl hkb _ _ (ptrE_at (φ f)) ?_; intro w3 hown3 ht3))
  go_end0
  exact ⟨rfl, FMap.of hown3 HF.out, ((Wr.refl _ _).alloc _).trans ((wr_turned ht2).trans (wr_turned ht3) (Grew.refl _ _)) (Grew.refl _ _)⟩
/-- A change of names, whatever it is. -/
theorem do_any {w : World} {m N : Nat} {φ : Nat → Nat} {l : Nm} (h : FMap w m φ l) (hr : Pl.RisN l) (hl : l.length ≤ 1099511627776) {c : Ch} (hc : Pl.okc N l c) (hs : Pl.ShortC c) :
    Calls Tryz.prog 61 #[.agg (chCells φ c).toArray, .map (some m)] w (DoneEnd m φ (Pl.change l c) w) := by
  unfold chCells Pl.change
  rcases hc with ⟨e, _⟩ | ⟨e, h1, h2, _⟩ | ⟨e, h2⟩
  · rw [if_pos e, if_pos e]; exact do_create h hr hl _ _ hs.1
  · rw [if_neg (by omega), if_neg (by omega), if_pos e]; exact do_rename h hr hl _ _ _ h1 h2 hs.1 hs.2
  · rw [if_neg (by omega), if_neg (by omega), if_neg (by omega), h2]; exact do_remove h hr _ hs.1
end Go.Proofs.YtfbjmhipjfjaeaaGreatDoor

namespace Go.Proofs.YtfbjmhipjfjaeaaGreatDoor
open Go.ChangeShapes Go.WideShapes Go.ChangeAt Go.RowKit Go.Maps
open Pl (Tx Fl Ch Nm Dk)
set_option linter.unusedVariables false

/-- A row of the call's own, of elements of k cells, its block one of F. -/
def RowC (w : World) (F : Nat → Prop) (e : TypeId) (k : Nat) (v : Value) (n : Nat) (xs : List Value) : Prop := w.ownsRow 0 e k v n xs ∧ ∀ g, v.ownBlock = some g → F g
namespace RowC
variable {w w' : World} {F G : Nat → Prop} {e : TypeId} {k n : Nat} {v : Value} {xs : List Value}
theorem shape (h : RowC w F e k v n xs) : ∃ ao cp, v = .slice ao n cp := by
  rcases h.1.2 with ⟨h1, h2⟩ | ⟨g, cap, cur, h1, _⟩
  · exact ⟨none, 0, by rw [h1, h2]⟩
  · exact ⟨_, _, h1⟩
theorem nil (w : World) (F : Nat → Prop) (e : TypeId) (k : Nat) : RowC w F e k (.slice none 0 0) 0 [] := ⟨⟨by simp, .inl ⟨rfl, rfl⟩⟩, fun g h => by simp [Value.ownBlock] at h⟩
theorem kept (h : RowC w F e k v n xs) (hw : Wr G w w') (hFG : ∀ k, F k → ¬ G k) : RowC w' F e k v n xs := by
  refine ⟨⟨h.1.1, ?_⟩, h.2⟩
  rcases h.1.2 with h1 | ⟨g, cap, cur, rfl, hb, hg, r⟩
  · exact .inl h1
  · exact .inr ⟨g, cap, cur, rfl, hb, (hw.block g (Array.getElem?_eq_some_iff.1 hg).1 (hFG g (h.2 g rfl))).trans hg, r⟩
theorem kept_by (h : RowC w F e k v n xs) (hw : ∀ (k : Nat) (cur : Array Value), w.heap[k]? = some (.cells cur e (0, 0)) → w'.heap[k]? = w.heap[k]?) : RowC w' F e k v n xs := by
  refine ⟨⟨h.1.1, ?_⟩, h.2⟩
  rcases h.1.2 with h1 | ⟨g, cap, cur, rfl, hb, hg, r⟩
  · exact .inl h1
  · exact .inr ⟨g, cap, cur, rfl, hb, (hw g cur hg).trans hg, r⟩
theorem mono (h : RowC w F e k v n xs) (hFG : ∀ k, F k → G k) : RowC w G e k v n xs := ⟨h.1, fun g hg => hFG g (h.2 g hg)⟩
theorem at_ (h : RowC w F e k v n xs) (h0 : 0 < n) (hk : 0 < k) : ∃ g cp, v = .slice (some ⟨g, 0, none⟩) n cp ∧ F g ∧ g < w.heap.size ∧ (∃ cur, w.heap[g]? = some (.cells cur e (0, 0))) ∧ ∀ j x, xs[j]? = some x → w.cell? ⟨g, j, none⟩ = some x := by
  rcases h.1.2 with ⟨h1, h2⟩ | ⟨g, cap, cur, rfl, h3, h4, h5, h6, h7, h8⟩
  · omega
  · refine ⟨g, cap, rfl, h.2 g rfl, (Array.getElem?_eq_some_iff.1 h4).1, ⟨cur, h4⟩, fun j x hx => ?_⟩
    have hj := (List.getElem?_eq_some_iff.1 hx).1
    rw [World.ownsRow.cellAt h.1 j (by rw [← h.1.1]; exact hj)]; exact hx
end RowC
/-- A row of faults that is only read. -/
def PRow (w : World) (F : Nat → Prop) (v : Value) (l : List (Int × Int × Int)) : Prop :=
  ∃ ao cp, v = .slice ao l.length cp ∧ (l = [] ∨ ∃ g off, ao = some ⟨g, off, none⟩ ∧ F g ∧ g < w.heap.size ∧ (∃ cur fz, w.heap[g]? = some (.cells cur 96 fz)) ∧ ∀ (j : Nat) p, l[j]? = some p → w.cell? ⟨g, off + j * 3, none⟩ = some (.int .i64 p.1) ∧ w.cell? ⟨g, off + j * 3 + 1, none⟩ = some (.int .i64 p.2.1) ∧ w.cell? ⟨g, off + j * 3 + 2, none⟩ = some (.int .i64 p.2.2))
namespace PRow
variable {w w' : World} {F G : Nat → Prop} {v : Value} {l : List (Int × Int × Int)}
theorem shape (h : PRow w F v l) : ∃ ao cp, v = .slice ao l.length cp := by obtain ⟨ao, cp, e, _⟩ := h; exact ⟨ao, cp, e⟩
theorem nil (w : World) (F : Nat → Prop) : PRow w F (.slice none 0 0) [] := ⟨none, 0, rfl, .inl rfl⟩
theorem same (h : PRow w F v l) (hs : w.heap.size ≤ w'.heap.size) (hw : ∀ (k : Nat) (cur : Array Value) fz, F k → w.heap[k]? = some (.cells cur 96 fz) → w'.heap[k]? = w.heap[k]?) : PRow w' F v l := by
  obtain ⟨ao, cp, e, h⟩ := h
  refine ⟨ao, cp, e, h.imp id ?_⟩
  rintro ⟨g, off, h1, hF, hg, ⟨cur, fz, hb⟩, hc⟩
  have he := hw g cur fz hF hb
  refine ⟨g, off, h1, hF, Nat.lt_of_lt_of_le hg hs, ⟨cur, fz, he.trans hb⟩, fun j p hp => ?_⟩
  have hcell : ∀ o, w'.cell? ⟨g, o, none⟩ = w.cell? ⟨g, o, none⟩ := fun o => World.cell?_of_block he
  obtain ⟨c0, c1, c2⟩ := hc j p hp
  exact ⟨(hcell _).trans c0, (hcell _).trans c1, (hcell _).trans c2⟩
theorem kept (h : PRow w F v l) (hw : Wr G w w') (hFG : ∀ k, F k → ¬ G k) : PRow w' F v l :=
  h.same hw.size fun k cur fz hF hb => hw.block k (Array.getElem?_eq_some_iff.1 hb).1 (hFG k hF)
theorem mono (h : PRow w F v l) (hFG : ∀ k, F k → G k) : PRow w G v l := by
  obtain ⟨ao, cp, e, h⟩ := h
  refine ⟨ao, cp, e, h.imp id ?_⟩
  rintro ⟨g, off, h1, hF, r⟩
  exact ⟨g, off, h1, hFG g hF, r⟩
theorem at_ {ao : Option Addr} {n cp : Nat} (h : PRow w F (.slice ao n cp) l) {j : Nat} {p : Int × Int × Int} (hp : l[j]? = some p) :
    ∃ g off, ao = some ⟨g, off, none⟩ ∧ F g ∧ g < w.heap.size ∧ w.cell? ⟨g, off + j * 3, none⟩ = some (.int .i64 p.1) ∧ w.cell? ⟨g, off + j * 3 + 1, none⟩ = some (.int .i64 p.2.1) ∧ w.cell? ⟨g, off + j * 3 + 2, none⟩ = some (.int .i64 p.2.2) := by
  obtain ⟨a, c, e, h⟩ := h
  cases e
  rcases h with h | ⟨g, off, rfl, hF, hg, _, hc⟩
  · rw [h] at hp; simp at hp
  · obtain ⟨c0, c1, c2⟩ := hc j p hp
    exact ⟨g, off, rfl, hF, hg, c0, c1, c2⟩
end PRow
/-- The disk's block and what it leads to. -/
structure DiskAt (w : World) (b : Nat) (F : Nat → Prop) (φ : Nat → Nat) (S : Dk) (nm lm : Nat) (ov pv : Value) : Prop where
  lt : ∀ k, F k → k < w.heap.size
  own : F b
  ownN : F nm
  ownL : F lm
  ne : nm ≠ lm
  block : w.heap[b]? = some (.cells #[.map (some nm), .map (some lm), ov, .int .i64 S.steps, pv, .bool S.down] 91 (0, 0))
  names : FMap w nm φ S.names
  last : FMap w lm φ S.last
  files : ∀ i f, S.files[i]? = some f → w.heap[φ i]? = some (.cells #[strV f.text, .int .i64 f.sync] 101 (0, 0)) ∧ F (φ i)
  inj : ∀ i j, i < S.files.length → j < S.files.length → φ i = φ j → i = j
  opn : RowC w F 103 4 ov S.opn.length (S.opn.flatMap (chCells φ))
  plan : PRow w F pv S.plan
def Disk (w : World) (b : Nat) (F : Nat → Prop) (φ : Nat → Nat) (S : Dk) : Prop := ∃ nm lm ov pv, DiskAt w b F φ S nm lm ov pv
namespace DiskAt
variable {w w' : World} {b : Nat} {F G : Nat → Prop} {φ : Nat → Nat} {S S' : Dk} {nm lm : Nat} {ov pv : Value}
theorem kept (h : DiskAt w b F φ S nm lm ov pv) (hw : Wr G w w') (hFG : ∀ k, F k → ¬ G k) : DiskAt w' b F φ S nm lm ov pv :=
  { h with
    lt := fun k hk => Nat.lt_of_lt_of_le (h.lt k hk) hw.size
    block := (hw.block b (h.lt b h.own) (hFG b h.own)).trans h.block
    names := h.names.kept hw (hFG nm h.ownN)
    last := h.last.kept hw (hFG lm h.ownL)
    files := fun i f hf => by
      obtain ⟨h1, h2⟩ := h.files i f hf
      exact ⟨(hw.block _ (h.lt _ h2) (hFG _ h2)).trans h1, h2⟩
    opn := h.opn.kept hw hFG
    plan := h.plan.kept hw hFG }
theorem below (h : DiskAt w b F φ S nm lm ov pv) (hw : Below w.heap.size w w') : DiskAt w' b F φ S nm lm ov pv := h.kept (G := fun _ => False) (Wr.of_below hw) (fun _ _ h => h)
theorem alloc (h : DiskAt w b F φ S nm lm ov pv) (o : Obj) : DiskAt (w.alloc o) b F φ S nm lm ov pv := h.below ((Below.refl _ _).alloc (Nat.le_refl _) _)
theorem store (h : DiskAt w b F φ S nm lm ov pv) {p : Addr} (hp : ¬ F p.block) (u : Value) : DiskAt (w.setCell p u) b F φ S nm lm ov pv :=
  h.kept (G := fun k => k = p.block) ⟨rfl, rfl, rfl, by simp [World.setCell], fun k hk hf => Below.heap_setCell _ _ _ _ hf⟩ (fun k hk e => hp (e ▸ hk))
theorem disk (h : DiskAt w b F φ S nm lm ov pv) : Disk w b F φ S := ⟨nm, lm, ov, pv, h⟩
theorem cells (h : DiskAt w b F φ S nm lm ov pv) : w.cell? ⟨b, 0, none⟩ = some (.map (some nm)) ∧ w.cell? ⟨b, 1, none⟩ = some (.map (some lm)) ∧ w.cell? ⟨b, 2, none⟩ = some ov ∧ w.cell? ⟨b, 3, none⟩ = some (.int .i64 S.steps) ∧
    w.cell? ⟨b, 4, none⟩ = some pv ∧ w.cell? ⟨b, 5, none⟩ = some (.bool S.down) := by
  have hb := h.block
  refine ⟨?_, ?_, ?_, ?_, ?_, ?_⟩ <;> simp [World.cell?, hb]
theorem free (h : DiskAt w b F φ S nm lm ov pv) (i : Nat) : w.frozen? ⟨b, i, none⟩ = false := by
  have hb := h.block
  simp only [World.frozen?, hb]
  simp
/-- A block of the disk's own type is no other one. -/
theorem notb (h : DiskAt w b F φ S nm lm ov pv) {k : Nat} {cur : Array Value} {e : TypeId} {fz : Nat × Nat} (he : e ≠ 91) (hk : w.heap[k]? = some (.cells cur e fz)) : k ≠ b := by
  rintro rfl
  rw [h.block] at hk
  simp only [Option.some.injEq, Obj.cells.injEq] at hk
  exact he hk.2.1.symm
/-- Its own block alone is written: the maps, rows and files stay. -/
theorem upd (h : DiskAt w b F φ S nm lm ov pv) (h1 : S'.names = S.names) (h2 : S'.last = S.last) (h3 : S'.files = S.files) (h4 : S'.opn = S.opn) (h5 : S'.plan = S.plan)
    (hb : w'.heap[b]? = some (.cells #[.map (some nm), .map (some lm), ov, .int .i64 S'.steps, pv, .bool S'.down] 91 (0, 0))) (ho : ∀ k, k ≠ b → w'.heap[k]? = w.heap[k]?) (hs : w'.heap.size = w.heap.size) : DiskAt w' b F φ S' nm lm ov pv where
  lt := fun k hk => by rw [hs]; exact h.lt k hk
  own := h.own
  ownN := h.ownN
  ownL := h.ownL
  ne := h.ne
  block := hb
  names := by rw [h1]; exact h.names.same (ho nm fun e => h.names.notCells h.block e.symm)
  last := by rw [h2]; exact h.last.same (ho lm fun e => h.last.notCells h.block e.symm)
  files := fun i f hf => by
    rw [h3] at hf
    obtain ⟨f1, f2⟩ := h.files i f hf
    exact ⟨(ho _ (h.notb (by decide) f1)).trans f1, f2⟩
  inj := by rw [h3]; exact h.inj
  opn := by rw [h4]; exact h.opn.kept_by fun k cur hk => ho k (h.notb (by decide) hk)
  plan := by rw [h5]; exact h.plan.same (by rw [hs]; exact Nat.le_refl _) fun k cur fz _ hk => ho k (h.notb (by decide) hk)
/-- A file's cell is written. -/
theorem updF (h : DiskAt w b F φ S nm lm ov pv) {i : Nat} {f : Fl} (hf : S.files[i]? = some f) (g : Fl → Fl)
    (hb : w'.heap[φ i]? = some (.cells #[strV (g f).text, .int .i64 (g f).sync] 101 (0, 0))) (ho : ∀ k, k ≠ φ i → w'.heap[k]? = w.heap[k]?) (hs : w'.heap.size = w.heap.size) : DiskAt w' b F φ (S.setF i g) nm lm ov pv where
  lt := fun k hk => by rw [hs]; exact h.lt k hk
  own := h.own
  ownN := h.ownN
  ownL := h.ownL
  ne := h.ne
  block := (ho b (fun e => h.notb (by decide) (h.files i f hf).1 e.symm)).trans h.block
  names := h.names.same (ho nm fun e => h.names.notCells (h.files i f hf).1 e.symm)
  last := h.last.same (ho lm fun e => h.last.notCells (h.files i f hf).1 e.symm)
  files := fun j f' hf' => by
    have hi := (List.getElem?_eq_some_iff.1 hf).1
    simp only [Dk.setF, List.getElem?_modify] at hf'
    by_cases e : i = j
    · subst e
      rw [hf] at hf'
      simp at hf'
      subst hf'
      exact ⟨hb, (h.files i f hf).2⟩
    · simp [e] at hf'
      obtain ⟨f1, f2⟩ := h.files j f' hf'
      exact ⟨(ho _ fun e2 => e (h.inj _ _ hi (List.getElem?_eq_some_iff.1 hf').1 e2.symm)).trans f1, f2⟩
  inj := by intro i' j' h1 h2; simp only [Dk.setF, List.length_modify] at h1 h2; exact h.inj i' j' h1 h2
  opn := h.opn.kept_by fun k cur hk => ho k fun e => by
    rw [e, (h.files i f hf).1] at hk
    simp only [Option.some.injEq, Obj.cells.injEq] at hk
    exact absurd hk.2.1 (by decide)
  plan := h.plan.same (by rw [hs]; exact Nat.le_refl _) fun k cur fz _ hk => ho k fun e => by
    rw [e, (h.files i f hf).1] at hk
    simp only [Option.some.injEq, Obj.cells.injEq] at hk
    exact absurd hk.2.1 (by decide)
end DiskAt
theorem Disk.kept {w w' : World} {b : Nat} {F G : Nat → Prop} {φ : Nat → Nat} {S : Dk} (h : Disk w b F φ S) (hw : Wr G w w') (hFG : ∀ k, F k → ¬ G k) : Disk w' b F φ S := by
  obtain ⟨nm, lm, ov, pv, h⟩ := h; exact ⟨nm, lm, ov, pv, h.kept hw hFG⟩
theorem Disk.below {w w' : World} {b : Nat} {F : Nat → Prop} {φ : Nat → Nat} {S : Dk} (h : Disk w b F φ S) (hw : Below w.heap.size w w') : Disk w' b F φ S := by
  obtain ⟨nm, lm, ov, pv, h⟩ := h; exact ⟨nm, lm, ov, pv, h.below hw⟩
theorem Disk.lt {w : World} {b : Nat} {F : Nat → Prop} {φ : Nat → Nat} {S : Dk} (h : Disk w b F φ S) : ∀ k, F k → k < w.heap.size := by obtain ⟨nm, lm, ov, pv, h⟩ := h; exact h.lt
theorem Disk.own {w : World} {b : Nat} {F : Nat → Prop} {φ : Nat → Nat} {S : Dk} (h : Disk w b F φ S) : F b := by obtain ⟨nm, lm, ov, pv, h⟩ := h; exact h.own
end Go.Proofs.YtfbjmhipjfjaeaaGreatDoor

namespace Go.Proofs.YtfbjmhipjfjaeaaGreatDoor
open Go.ChangeShapes Go.WideShapes Go.ChangeAt Go.RowKit Go.Maps
open Pl (Tx Fl Ch Nm Dk)
set_option linter.unusedVariables false

/-- A block of three cells: a fault. -/
def Blk3 (w : World) (g : Nat) (a b c : Value) : Prop := w.heap[g]? = some (.cells #[a, b, c] 96 (0, 0))
namespace Blk3
variable {w w' : World} {g : Nat} {a b c : Value}
theorem cells (h : Blk3 w g a b c) : w.cell? ⟨g, 0, none⟩ = some a ∧ w.cell? ⟨g, 1, none⟩ = some b ∧ w.cell? ⟨g, 2, none⟩ = some c := by
  unfold Blk3 at h
  simp [World.cell?, h]
theorem free (h : Blk3 w g a b c) (i : Nat) : w.frozen? ⟨g, i, none⟩ = false := by
  unfold Blk3 at h
  simp [World.frozen?, h]
theorem kept (h : Blk3 w g a b c) (hb : w'.heap[g]? = w.heap[g]?) : Blk3 w' g a b c := hb.trans h
theorem lt (h : Blk3 w g a b c) : g < w.heap.size := (Array.getElem?_eq_some_iff.1 h).1
theorem later (h : Blk3 w g a b c) (hb : Below w.heap.size w w') : Blk3 w' g a b c := h.kept (hb.block g h.lt)
theorem set0 (h : Blk3 w g a b c) (u : Value) : Blk3 (w.setCell ⟨g, 0, none⟩ u) g u b c := heap_setCell_same h
theorem set1 (h : Blk3 w g a b c) (u : Value) : Blk3 (w.setCell ⟨g, 1, none⟩ u) g a u c := heap_setCell_same h
theorem set2 (h : Blk3 w g a b c) (u : Value) : Blk3 (w.setCell ⟨g, 2, none⟩ u) g a b u := heap_setCell_same h
theorem new (h : g = w.heap.size) : Blk3 (w.alloc (.cells #[a, b, c] 96)) g a b c := by subst h; exact heap_alloc_new w _
theorem alloc (h : Blk3 w g a b c) (o : Obj) : Blk3 (w.alloc o) g a b c := (heap_alloc_old w o h.lt).trans h
theorem other (h : Blk3 w g a b c) {p : Addr} (hp : g ≠ p.block) (u : Value) : Blk3 (w.setCell p u) g a b c := (Below.heap_setCell _ _ _ _ hp).trans h
end Blk3
theorem Wr.setNew {F : Nat → Prop} {a w : World} (h : Wr F a w) {p : Addr} (hp : a.heap.size ≤ p.block) (u : Value) : Wr F a (w.setCell p u) :=
  ⟨h.os, h.tape, h.output, by simpa [World.setCell] using h.size, fun k hk hf => (Below.heap_setCell _ _ _ _ (by omega)).trans (h.block k hk hf)⟩
theorem results_cell_tmp {P : Program} {fn : Func} {p u : Tmp} {ty : TypeId} (h : fn.results = #[.cell p ty, .tmp u]) (tmps : Array Value) (w : World) (g : Nat) (val : Value)
    (hp : tmps.getD p undef = .pointer (some ⟨g, 0, none⟩)) (hl : (loadVar ty ⟨g, 0, none⟩).run P w = .ok val w) :
    (results fn tmps).run P w = .ok (.tuple #[val, tmps.getD u undef]) w := by
  have hp' : tmps[p]?.getD undef = .pointer (some ⟨g, 0, none⟩) := by simpa using hp
  simp [results, h, hp', asAddr, hl]
theorem faultInfo : (Tryz.prog.info? 96).map (·.size) = some 3 := by kernel_rfl
theorem fault_end {W : World} {a b c : Value} {tmps : Array Value} {n p u : Nat} {fn : Func} (hr : fn.results = #[.cell p 96, .tmp u]) (hp : tmps.getD p undef = .pointer (some ⟨n, 0, none⟩)) (hg : Blk3 W n a b c) :
    (results fn tmps).run Tryz.prog W = .ok (.tuple #[.agg #[a, b, c], tmps.getD u undef]) W :=
  results_cell_tmp hr tmps W n _ hp (run_loadVar_row W n _ _ _ _ _ hg Tryz.underlying96 rfl faultInfo)
theorem find_none_take {S : Dk} {n : Int} (h : ∀ (j : Nat) (p : Int × Int × Int), S.plan[j]? = some p → p.1 ≠ n) : S.plan.find? (fun p => decide (p.1 = n)) = none := by
  rw [List.find?_eq_none]
  intro p hp
  obtain ⟨j, hj⟩ := List.getElem?_of_mem hp
  simpa using h j p hj
theorem find_at {l : List (Int × Int × Int)} {n : Int} {j : Nat} {p : Int × Int × Int} (hj : l[j]? = some p) (hp : p.1 = n) (h : ∀ i q, i < j → l[i]? = some q → q.1 ≠ n) : l.find? (fun p => decide (p.1 = n)) = some p := by
  induction l generalizing j with
  | nil => simp at hj
  | cons x r ih =>
    cases j with
    | zero =>
      simp at hj; subst hj
      simp [hp]
    | succ j =>
      have h0 := h 0 x (by omega) rfl
      rw [List.find?_cons_of_neg (by simpa using h0)]
      exact ih (by simpa using hj) fun i q hi hq => h (i + 1) q (by omega) (by simpa using hq)
/-- The fault that a step meets, as it is told. -/
def hitV (S : Dk) : Value := match S.hit with
  | none => .agg #[.int .i64 0, .int .i64 0, .int .i64 0]
  | some p => .agg #[.int .i64 p.1, .int .i64 p.2.1, .int .i64 p.2.2]
def StepEnd (b : Nat) (F : Nat → Prop) (φ : Nat → Nat) (S : Dk) (w : World) (e : Ending) (w' : World) : Prop := e = .returned (.tuple #[hitV S, .int .i64 S.faultE]) ∧ Disk w' b F φ S.faultS ∧ Wr F w w'
set_option maxRecDepth 100000 in
set_option maxHeartbeats 1600000 in
theorem step_any {w : World} {b : Nat} {F : Nat → Prop} {φ : Nat → Nat} {S : Dk} (h : Disk w b F φ S) (hs : S.steps ≤ 1099511627776) (hp : S.plan.length ≤ 1024) :
    Calls Tryz.prog 58 #[.pointer (some ⟨b, 0, none⟩)] w (StepEnd b F φ S w) := by
  obtain ⟨nm, lm, ov, pv, h⟩ := h
  obtain ⟨pa, pc, rfl⟩ := h.plan.shape
  obtain ⟨c0, c1, c2, c3, c4, c5⟩ := (h.alloc (.cells #[.int .i64 0, .int .i64 0, .int .i64 0] 96)).cells
  have f3 := (h.alloc (.cells #[.int .i64 0, .int .i64 0, .int .i64 0] 96)).free 3
  have hlt := h.lt b h.own
  have hbw : b ≠ w.heap.size := by omega
  obtain ⟨T, hT⟩ : ∃ T : Dk, { S with steps := S.steps + 1 } = T := ⟨_, rfl⟩
  have hU : DiskAt (w.setCell ⟨b, 3, none⟩ (.int .i64 ((S.steps : Int) + 1))) b F φ T nm lm ov (.slice pa S.plan.length pc) := by
    subst hT
    exact h.upd rfl rfl rfl rfl rfl (heap_setCell_same h.block) (fun k hk => Below.heap_setCell _ _ _ _ hk) (heap_setCell_size _ _ _)
  have hWr : Wr F w (w.setCell ⟨b, 3, none⟩ (.int .i64 ((S.steps : Int) + 1))) := (Wr.refl F w).setCell h.own _
  obtain ⟨d0, d1, d2, d3, d4, d5⟩ := (hU.alloc (.cells #[.int .i64 0, .int .i64 0, .int .i64 0] 96)).cells
  have HT := Lib.hid hT
  have H := Lib.hid h
  have HU := Lib.hid (And.intro hU hWr)
  have hTs : (T.steps : Int) = (S.steps : Int) + 1 := by rw [← hT]; exact Int.natCast_succ S.steps
  have hTp : T.plan = S.plan := by rw [← hT]
  have HTp := Lib.hid hTp
  have HTs := Lib.hid hTs
  clear h hU hWr hT hTs hTp d0 d1 d2 d3 d5
  go_enter Tryz.func58, Tryz.ntmps58
  go_wp2_with fail
  go_loopw [18] (fun i wr => ∃ j : Nat, j ≤ S.plan.length ∧ i = .int .i64 j ∧ Hid (DiskAt wr b F φ T nm lm ov (.slice pa S.plan.length pc)) ∧ Hid (Wr F w wr) ∧ Hid (Blk3 wr w.heap.size (.int .i64 0) (.int .i64 0) (.int .i64 0)) ∧ Hid (∀ i q, i < j → S.plan[i]? = some q → q.1 ≠ (S.steps : Int) + 1)) (fun i _ => S.plan.length - (intOf i).toNat)
  case atStart => exact ⟨0, Nat.zero_le _, rfl, HU.out.1.alloc _, HU.out.2.alloc _, Blk3.new (by rw [heap_setCell_size]), fun i q hi => by omega⟩
  case round =>
    obtain ⟨j, hj, rfl, hd, hw, hx, hno⟩ := hrel
    have hsz := hw.out.size
    by_cases hjl : j < S.plan.length
    · obtain ⟨p, hpj⟩ : ∃ p, S.plan[j]? = some p := ⟨_, List.getElem?_eq_getElem hjl⟩
      obtain ⟨g, off, rfl, hgF, hg, p0, p1, p2⟩ := hd.out.plan.at_ (by rw [HTp.out]; exact hpj)
      have hjI : (j : Int) < (S.plan.length : Int) := by omega
      have hj0 : (0 : Int) ≤ (j : Int) := by omega
      have HX := Lib.hid (fun o => hx.out.alloc o)
      have HD := Lib.hid (fun o => hd.out.alloc o)
      have HE := Lib.hid (show ∀ o, (wr.alloc o).cell? ⟨b, 3, none⟩ = some (.int .i64 ((S.steps : Int) + 1)) from fun o => by rw [← HTs.out]; exact (hd.out.alloc o).cells.2.2.2.1)
      have e3 := HE.out
      have HPJ := Lib.hid hpj
      have hxl := hx.out.lt
      clear hpj
      by_cases he : p.1 = (S.steps : Int) + 1
      · have HH := Lib.hid (show S.hit = some p from find_at HPJ.out he hno.out)
        have he1 : (p.1 == (S.steps : Int) + 1) = true := by rw [he]; exact beq_self_eq_true _
        have HY := Lib.hid (show Blk3 (wr.alloc (.cells #[.int .i64 p.1, .int .i64 p.2.1, .int .i64 p.2.2] 96)) wr.heap.size (.int .i64 p.1) (.int .i64 p.2.1) (.int .i64 p.2.2) from Blk3.new rfl)
        have hne1 : wr.heap.size ≠ b := by omega
        have hne2 : w.heap.size ≠ b := by omega
        have hne3 : wr.heap.size ≠ w.heap.size := by omega
        rw [he] at HY p0
        by_cases hk : p.2.1 = 3
        · have hk1 : (p.2.1 == 3) = true := by rw [hk]; rfl
          have HV := Lib.hid (show hitV S = .agg #[.int .i64 ((S.steps : Int) + 1), .int .i64 3, .int .i64 p.2.2] ∧ S.faultE = 53 ∧ S.faultS = { T with down := true } from by
            refine ⟨by unfold hitV; rw [HH.out]; simp only; rw [he, hk], by unfold Dk.faultE; rw [HH.out]; simp only; rw [if_pos hk], ?_⟩
            rw [← HT.out]; unfold Dk.faultS; rw [HH.out]; simp [hk])
          rw [hk] at HY p1
          clear hk1
          go_wp2_with fail
          go_quiet (fail)
          have HQ := Lib.hid (show DiskAt ((wr.alloc (.cells #[.int .i64 ((S.steps : Int) + 1), .int .i64 3, .int .i64 p.2.2] 96)).drewN nq) b F φ T nm lm ov _ ∧ Wr F w ((wr.alloc (.cells #[.int .i64 ((S.steps : Int) + 1), .int .i64 3, .int .i64 p.2.2] 96)).drewN nq) ∧ Blk3 ((wr.alloc (.cells #[.int .i64 ((S.steps : Int) + 1), .int .i64 3, .int .i64 p.2.2] 96)).drewN nq) w.heap.size (.int .i64 0) (.int .i64 0) (.int .i64 0) ∧ Blk3 ((wr.alloc (.cells #[.int .i64 ((S.steps : Int) + 1), .int .i64 3, .int .i64 p.2.2] 96)).drewN nq) wr.heap.size (.int .i64 ((S.steps : Int) + 1)) (.int .i64 3) (.int .i64 p.2.2) from
            ⟨(HD.out _).below (below_drewN (Below.refl _ _) nq), (hw.out.alloc _).drewN nq, (HX.out _).later (below_drewN (Below.refl _ _) nq), HY.out.later (below_drewN (Below.refl _ _) nq)⟩)
          generalize (wr.alloc (.cells #[.int .i64 ((S.steps : Int) + 1), .int .i64 3, .int .i64 p.2.2] 96)).drewN nq = W at HQ ⊢
          obtain ⟨-, -, -, -, -, q5⟩ := HQ.out.1.cells
          have g5 := HQ.out.1.free 5
          have HS5 := Lib.hid (show DiskAt (W.setCell ⟨b, 5, none⟩ (.bool true)) b F φ { T with down := true } nm lm ov _ from HQ.out.1.upd rfl rfl rfl rfl rfl (heap_setCell_same HQ.out.1.block) (fun k hk => Below.heap_setCell _ _ _ _ hk) (heap_setCell_size _ _ _))
          have HX5 := Lib.hid (HQ.out.2.2.1.other (p := ⟨b, 5, none⟩) hne2 (.bool true))
          obtain ⟨k0, k1, k2⟩ := HX5.out.cells
          have k3 := fun i => HX5.out.free i
          obtain ⟨z0, z1, z2⟩ := HQ.out.2.2.2.cells
          obtain ⟨y0, y1, y2⟩ := (HQ.out.2.2.2.other (p := ⟨b, 5, none⟩) hne1 (.bool true)).cells
          go_wp2
          refine bodyPost_ret (fault_end rfl rfl (((HX5.out.set0 _).set1 _).set2 _)) rfl ⟨by rw [HV.out.1, HV.out.2.1]; rfl, ?_, ?_⟩
          · rw [HV.out.2.2]
            have hnF : ¬ F w.heap.size := fun hk => Nat.lt_irrefl _ (H.out.lt _ hk)
            exact DiskAt.disk (((HS5.out.store (p := ⟨w.heap.size, 0, none⟩) hnF _).store (p := ⟨w.heap.size, 1, none⟩) hnF _).store (p := ⟨w.heap.size, 2, none⟩) hnF _)
          · exact ((((HQ.out.2.1.setCell (p := ⟨b, 5, none⟩) H.out.own _).setNew (p := ⟨w.heap.size, 0, none⟩) (Nat.le_refl _) _).setNew (p := ⟨w.heap.size, 1, none⟩) (Nat.le_refl _) _).setNew (p := ⟨w.heap.size, 2, none⟩) (Nat.le_refl _) _)
        · have hk1 : (p.2.1 == 3) = false := by rw [beq_eq_false_iff_ne]; exact hk
          have HV := Lib.hid (show hitV S = .agg #[.int .i64 ((S.steps : Int) + 1), .int .i64 p.2.1, .int .i64 p.2.2] ∧ S.faultE = 52 ∧ S.faultS = T from by
            refine ⟨by unfold hitV; rw [HH.out]; simp only; rw [he], by unfold Dk.faultE; rw [HH.out]; simp only; rw [if_neg hk], ?_⟩
            rw [← HT.out]; unfold Dk.faultS; rw [HH.out]; simp [hk])
          go_wp2_with fail
          go_quiet (fail)
          have HQ := Lib.hid (show DiskAt ((wr.alloc (.cells #[.int .i64 ((S.steps : Int) + 1), .int .i64 p.2.1, .int .i64 p.2.2] 96)).drewN nq) b F φ T nm lm ov _ ∧ Wr F w ((wr.alloc (.cells #[.int .i64 ((S.steps : Int) + 1), .int .i64 p.2.1, .int .i64 p.2.2] 96)).drewN nq) ∧ Blk3 ((wr.alloc (.cells #[.int .i64 ((S.steps : Int) + 1), .int .i64 p.2.1, .int .i64 p.2.2] 96)).drewN nq) w.heap.size (.int .i64 0) (.int .i64 0) (.int .i64 0) ∧ Blk3 ((wr.alloc (.cells #[.int .i64 ((S.steps : Int) + 1), .int .i64 p.2.1, .int .i64 p.2.2] 96)).drewN nq) wr.heap.size (.int .i64 ((S.steps : Int) + 1)) (.int .i64 p.2.1) (.int .i64 p.2.2) from
            ⟨(HD.out _).below (below_drewN (Below.refl _ _) nq), (hw.out.alloc _).drewN nq, (HX.out _).later (below_drewN (Below.refl _ _) nq), HY.out.later (below_drewN (Below.refl _ _) nq)⟩)
          generalize (wr.alloc (.cells #[.int .i64 ((S.steps : Int) + 1), .int .i64 p.2.1, .int .i64 p.2.2] 96)).drewN nq = W at HQ ⊢
          obtain ⟨k0, k1, k2⟩ := HQ.out.2.2.1.cells
          have k3 := fun i => HQ.out.2.2.1.free i
          obtain ⟨y0, y1, y2⟩ := HQ.out.2.2.2.cells
          go_wp2
          refine bodyPost_ret (fault_end rfl rfl (((HQ.out.2.2.1.set0 _).set1 _).set2 _)) rfl ⟨by rw [HV.out.1, HV.out.2.1]; rfl, ?_, ?_⟩
          · rw [HV.out.2.2]
            have hnF : ¬ F w.heap.size := fun hk => Nat.lt_irrefl _ (H.out.lt _ hk)
            exact DiskAt.disk (((HQ.out.1.store (p := ⟨w.heap.size, 0, none⟩) hnF _).store (p := ⟨w.heap.size, 1, none⟩) hnF _).store (p := ⟨w.heap.size, 2, none⟩) hnF _)
          · exact (((HQ.out.2.1.setNew (p := ⟨w.heap.size, 0, none⟩) (Nat.le_refl _) _).setNew (p := ⟨w.heap.size, 1, none⟩) (Nat.le_refl _) _).setNew (p := ⟨w.heap.size, 2, none⟩) (Nat.le_refl _) _)
      · have he1 : (p.1 == (S.steps : Int) + 1) = false := by rw [beq_eq_false_iff_ne]; exact he
        go_wp2_with fail
        go_quiet (fail)
        go_wp2
        go_roundw
        case rel => exact ⟨j + 1, by omega, by go_num, (HD.out _).below (below_drewN (Below.refl _ _) nq), (hw.out.alloc _).drewN nq, (HX.out _).later (below_drewN (Below.refl _ _) nq), fun i q hi hq => by
          by_cases e : i = j
          · subst e; rw [HPJ.out] at hq; cases hq; exact he
          · exact hno.out i q (by omega) hq⟩
        case measure => simp [intOf]; omega
    · obtain rfl : j = S.plan.length := by omega
      have HH := Lib.hid (show S.hit = none from find_none_take fun i q hq => hno.out i q (List.getElem?_eq_some_iff.1 hq).1 hq)
      have HV := Lib.hid (show hitV S = .agg #[.int .i64 0, .int .i64 0, .int .i64 0] ∧ S.faultE = 0 ∧ S.faultS = T from by
        refine ⟨by unfold hitV; rw [HH.out], by unfold Dk.faultE; rw [HH.out], ?_⟩
        rw [← HT.out]; unfold Dk.faultS; rw [HH.out]; simp)
      obtain ⟨k0, k1, k2⟩ := hx.out.cells
      have k3 := fun i => hx.out.free i
      go_wp2
      refine bodyPost_ret (fault_end rfl rfl (((hx.out.set0 _).set1 _).set2 _)) rfl ⟨by rw [HV.out.1, HV.out.2.1]; rfl, ?_, ?_⟩
      · rw [HV.out.2.2]
        have hnF : ¬ F w.heap.size := fun hk => Nat.lt_irrefl _ (H.out.lt _ hk)
        exact DiskAt.disk (((hd.out.store (p := ⟨w.heap.size, 0, none⟩) hnF _).store (p := ⟨w.heap.size, 1, none⟩) hnF _).store (p := ⟨w.heap.size, 2, none⟩) hnF _)
      · exact (((hw.out.setNew (p := ⟨w.heap.size, 0, none⟩) (Nat.le_refl _) _).setNew (p := ⟨w.heap.size, 1, none⟩) (Nat.le_refl _) _).setNew (p := ⟨w.heap.size, 2, none⟩) (Nat.le_refl _) _)
/-- What a name leads to, or the error. -/
def FoundEnd (φ : Nat → Nat) (S : Dk) (n : Tx) (w : World) (e : Ending) (w' : World) : Prop :=
  e = .returned (.tuple #[if S.askE n = 0 then .pointer (some ⟨φ (S.fileOf n), 0, none⟩) else .pointer none, .int .i64 (S.askE n)]) ∧ w = w'
theorem FoundEnd.bad {φ : Nat → Nat} {S : Dk} {n : Tx} {w : World} {k : Int} (h : (S.askE n : Int) = k) (h0 : k ≠ 0) : FoundEnd φ S n w (.returned (.tuple #[.pointer none, .int .i64 k])) w := by
  subst h
  exact ⟨by rw [if_neg (by omega)], rfl⟩
set_option maxRecDepth 100000 in
set_option maxHeartbeats 1600000 in
theorem find_any {w : World} {b : Nat} {F : Nat → Prop} {φ : Nat → Nat} {S : Dk} (h : Disk w b F φ S) (n : Tx) (hn : n.length ≤ 33554432) :
    Calls Tryz.prog 57 #[.pointer (some ⟨b, 0, none⟩), .string (str n)] w (FoundEnd φ S n w) := by
  obtain ⟨nm, lm, ov, pv, h⟩ := h
  obtain ⟨c0, -, -, -, -, c5⟩ := h.cells
  obtain ⟨D, hown, hf⟩ := h.names
  have HF := Lib.hid hf
  have hk := key_str hn
  unfold strV at hk
  clear h hf
  cases hd : S.down with
  | true =>
    rw [hd] at c5
    have HA := Lib.hid (show (S.askE n : Int) = 53 by unfold Dk.askE; rw [if_pos hd]; rfl)
    clear hd
    go_enter Tryz.func57, Tryz.ntmps57
    go_wp2
    go_ret2
    exact FoundEnd.bad HA.out (by omega)
  | false =>
    rw [hd] at c5
    by_cases h0 : n = []
    · subst h0
      have HA := Lib.hid (show (S.askE [] : Int) = 1 by unfold Dk.askE; rw [if_neg (by simp [hd]), if_pos rfl]; rfl)
      clear hd
      have hb1 : ((str []).toList == ([] : List UInt8)) = true := by rw [str_none]; rfl
      have hb2 : (str []).toList.isEmpty = true := by rw [str_empty]; rfl
      go_enter Tryz.func57, Tryz.ntmps57
      go_wp2
      go_ret2
      exact FoundEnd.bad HA.out (by omega)
    · have hb1 : ((str n).toList == ([] : List UInt8)) = false := by rw [str_none, decide_eq_false h0]
      have hb2 : (str n).toList.isEmpty = false := by rw [str_empty, decide_eq_false h0]
      have h0' : (str n).toList ≠ [] := by rw [strList]; exact h0
      cases hfi : Pl.find S.names n with
      | none =>
        have HA := Lib.hid (show (S.askE n : Int) = 50 by unfold Dk.askE; rw [if_neg (by simp [hd]), if_neg h0, hfi]; rfl)
        have hhas : Maps.has D (litB n) = false := by rw [HF.out.has, hfi]; rfl
        have HZ := Lib.hid (Maps.atKey_of_not_has hhas .nil)
        clear hd h0 hfi
        go_enter Tryz.func57, Tryz.ntmps57
        go_wp2_with (at_lookup; refine wpList_lookup_own_ok _ rfl _ _ 88 rfl 9 92 strKeyed Tryz.underlying88 ptrE (zeroP _) .nil [] rfl nm _ D rfl hown _ _ rfl hk ?_; intro v ps hv; rw [HZ.out] at hv; obtain rfl := ptrE_nil hv; clear hv)
        go_ret2
        exact FoundEnd.bad HA.out (by omega)
      | some i =>
        have HA := Lib.hid (show S.askE n = 0 ∧ S.fileOf n = i by unfold Dk.askE Dk.fileOf; rw [if_neg (by simp [hd]), if_neg h0, hfi]; exact ⟨rfl, rfl⟩)
        have hhas : Maps.has D (litB n) = true := by rw [HF.out.has, hfi]; rfl
        have HZ := Lib.hid (HF.out.at_ n i hfi)
        clear hd h0 hfi
        go_enter Tryz.func57, Tryz.ntmps57
        go_wp2_with (at_lookup; refine wpList_lookup_own_ok _ rfl _ _ 88 rfl 9 92 strKeyed Tryz.underlying88 ptrE (zeroP _) .nil [] rfl nm _ D rfl hown _ _ rfl hk ?_; intro v ps hv; rw [HZ.out] at hv; obtain rfl := ptrE_lit hv; clear hv)
        go_ret2
        exact ⟨by rw [HA.out.1, HA.out.2]; rfl, rfl⟩
end Go.Proofs.YtfbjmhipjfjaeaaGreatDoor
