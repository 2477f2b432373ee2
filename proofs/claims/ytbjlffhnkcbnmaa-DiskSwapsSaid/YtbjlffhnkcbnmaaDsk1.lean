/- The disk of the program: maps that lead to files; the disk's block; small walks. -/
import Derived.Test.YtbjlffhnkcbnmaaWr
import Derived.Test.YtbjlffhnkcbnmaaPlainDisk
import Derived.Maps.OwnSet
import Derived.Sort.Walk0
import Derived.Deep.QuietTactic
import Derived.BigQuiet
namespace Go.Proofs.Ytbjlffhnkcbnmaa
open Go.ChangeShapes Go.WideShapes Go.ChangeAt Go.RowKit Go.Maps
open Pl (Tx Fl Ch Nm Dk)
set_option linter.unusedVariables false

def strV (l : List UInt8) : Value := .string (str l)
theorem heap_setCell_same {w : World} {b i : Nat} {v : Value} {c : Array Value} {e : TypeId} {fz : Nat × Nat} (h : w.heap[b]? = some (.cells c e fz)) : (w.setCell ⟨b, i, none⟩ v).heap[b]? = some (.cells (c.setIfInBounds i v) e fz) := by
  simp [World.setCell, Array.getElem?_modify, h]
theorem heap_setCell_size (w : World) (a : Addr) (v : Value) : (w.setCell a v).heap.size = w.heap.size := by simp [World.setCell]
theorem strList (t : Tx) : (str t).toList = t := by rw [ByteArray.toList_eq]; rfl
theorem less_str (a b : Tx) : Op.bytesLess (str a).toList (str b).toList = decide (a < b) := by rw [strList, strList, bytesLess_eq]
theorem eq_str (a b : Tx) : ((str a).toList == (str b).toList) = decide (a = b) := by rw [strList, strList, Bool.eq_iff_iff]; simp
/-- A text that is none, or one. -/
theorem str_none (a : Tx) : ((str a).toList == ([] : List UInt8)) = decide (a = []) := by rw [strList, Bool.eq_iff_iff]; simp
theorem str_empty (a : Tx) : (str a).toList.isEmpty = decide (a = []) := by rw [strList, Bool.eq_iff_iff]; simp
theorem strKeyed : Keyed Try.prog 9 := string_keyed Try.underlying9
/-- How a file's pointer reads: by its block. -/
def ptrE : Value → Option (DataW Unit × List MemPlace)
  | .pointer none => some (.nil, [])
  | .pointer (some ⟨g, 0, none⟩) => some (.lit (.int .i64 g), [])
  | _ => none
theorem ptrE_at (g : Nat) : ptrE (.pointer (some ⟨g, 0, none⟩)) = some (.lit (.int .i64 g), []) := rfl
theorem ptrE_inv {v : Value} {d : DataW Unit} {ps : List MemPlace} (h : ptrE v = some (d, ps)) : (v = .pointer none ∧ d = .nil) ∨ ∃ g, v = .pointer (some ⟨g, 0, none⟩) ∧ d = .lit (.int .i64 g) := by
  unfold ptrE at h
  split at h
  · simp at h; exact .inl ⟨rfl, h.1.symm⟩
  · simp at h; exact .inr ⟨_, rfl, h.1.symm⟩
  · cases h
theorem ptrE_lit {v : Value} {g : Nat} {ps : List MemPlace} (h : ptrE v = some (.lit (.int .i64 g), ps)) : v = .pointer (some ⟨g, 0, none⟩) := by
  rcases ptrE_inv h with ⟨_, h2⟩ | ⟨g', rfl, h2⟩
  · cases h2
  · have : g' = g := by simp at h2; omega
    subst this; rfl
theorem ptrE_nil {v : Value} {ps : List MemPlace} (h : ptrE v = some (.nil, ps)) : v = .pointer none := by
  rcases ptrE_inv h with ⟨h1, _⟩ | ⟨g', rfl, h2⟩
  · exact h1
  · cases h2
abbrev ownsP (w : World) (b n : Nat) (D : DataW Unit) : Prop := w.ownsMap Try.prog 9 ptrE b n D
/-- A map's datum that leads from these names to these files' blocks. -/
structure FilesAre (D : DataW Unit) (φ : Nat → Nat) (l : Nm) : Prop where
  tidy : Maps.Tidy D
  has : ∀ k : Tx, Maps.has D (litB k) = (Pl.find l k).isSome
  at_ : ∀ (k : Tx) i, Pl.find l k = some i → D.atKey (litB k) .nil = .lit (.int .i64 (φ i))
  size : Maps.size D = l.length
theorem FilesAre.none (φ : Nat → Nat) : FilesAre (.map []) φ [] := ⟨Maps.tidy_empty, fun k => rfl, fun k i h => by simp [Pl.find] at h, rfl⟩
theorem FilesAre.put {D : DataW Unit} {φ : Nat → Nat} {l : Nm} (h : FilesAre D φ l) (hr : Pl.RisN l) (k : Tx) (f : Nat) : FilesAre (D.put (litB k) (.lit (.int .i64 (φ f)))) φ (Pl.wi l k f) := by
  have hm := h.tidy.isMap
  refine ⟨h.tidy.put (litB_key _) _, fun k' => ?_, fun k' i hi => ?_, ?_⟩
  · rw [Pl.find_wi]
    by_cases e : k' = k
    · subst e; rw [Maps.has_put_same hm (litB_key _)]; simp
    · rw [Maps.has_put_other (fun h => e (litB_inj h)), h.has, if_neg e]
  · rw [Pl.find_wi] at hi
    by_cases e : k' = k
    · subst e; rw [if_pos rfl] at hi; cases hi; exact Maps.atKey_put_same hm (litB_key _) _ _
    · rw [if_neg e] at hi
      rw [Maps.atKey_put_other (fun h => e (litB_inj h))]
      exact h.at_ k' i hi
  · rw [Maps.size_put h.tidy, h.has, h.size, Pl.len_wi hr]
theorem FilesAre.del {D : DataW Unit} {φ : Nat → Nat} {l : Nm} (h : FilesAre D φ l) (hr : Pl.RisN l) (k : Tx) : FilesAre (D.del (litB k)) φ (Pl.wo l k) := by
  refine ⟨h.tidy.del _, fun k' => ?_, fun k' i hi => ?_, ?_⟩
  · rw [Pl.find_wo]
    by_cases e : k' = k
    · subst e; rw [Maps.has_del_same]; simp
    · rw [Maps.has_del_other (fun h => e (litB_inj h)), h.has, if_neg e]
  · rw [Pl.find_wo] at hi
    by_cases e : k' = k
    · subst e; simp at hi
    · rw [if_neg e] at hi
      rw [Maps.atKey_del_other (fun h => e (litB_inj h))]
      exact h.at_ k' i hi
  · have h1 := Maps.size_del (k := litB k) h.tidy
    rw [h.has, h.size] at h1
    rw [Pl.len_wo hr]
    by_cases hs : (Pl.find l k).isSome
    · rw [if_pos hs] at h1 ⊢; omega
    · rw [if_neg hs] at h1 ⊢; omega
theorem FilesAre.turn {D : DataW Unit} {φ ψ : Nat → Nat} {l : Nm} (h : FilesAre D φ l) (hψ : ∀ p ∈ l, ψ p.2 = φ p.2) : FilesAre D ψ l :=
  ⟨h.tidy, h.has, fun k i hi => by rw [h.at_ k i hi, hψ _ (Pl.find_mem hi)], h.size⟩
/-- Block b is a map that leads from these names to these files' blocks. -/
def FMap (w : World) (b : Nat) (φ : Nat → Nat) (l : Nm) : Prop := ∃ D, ownsP w b l.length D ∧ FilesAre D φ l
theorem FMap.of {w : World} {b n : Nat} {D : DataW Unit} {φ : Nat → Nat} {l : Nm} (h : ownsP w b n D) (hf : FilesAre D φ l) : FMap w b φ l := by
  obtain ⟨es, clock, hb, F, hs, hD⟩ := h
  refine ⟨D, ⟨es, clock, hb, F, ?_, hD⟩, hf⟩
  rw [← hf.size, hD, Maps.size_eq, length_sorted]
  simp
theorem FMap.lt {w : World} {b : Nat} {φ : Nat → Nat} {l : Nm} (h : FMap w b φ l) : b < w.heap.size := by obtain ⟨D, h1, _⟩ := h; exact h1.lt
theorem FMap.kept {w w' : World} {b : Nat} {φ : Nat → Nat} {l : Nm} {F : Nat → Prop} (h : FMap w b φ l) (hw : Wr F w w') (hb : ¬ F b) : FMap w' b φ l := by
  obtain ⟨D, h1, h2⟩ := h
  exact ⟨D, ownsMap_wr h1 hw hb, h2⟩
theorem FMap.same {w w' : World} {b : Nat} {φ : Nat → Nat} {l : Nm} (h : FMap w b φ l) (hb : w'.heap[b]? = w.heap[b]?) : FMap w' b φ l := by
  obtain ⟨D, ⟨es, clock, e, r⟩, h2⟩ := h
  exact ⟨D, ⟨es, clock, hb.trans e, r⟩, h2⟩
theorem FMap.turn {w : World} {b : Nat} {φ ψ : Nat → Nat} {l : Nm} (h : FMap w b φ l) (hψ : ∀ p ∈ l, ψ p.2 = φ p.2) : FMap w b ψ l := by
  obtain ⟨D, h1, h2⟩ := h; exact ⟨D, h1, h2.turn hψ⟩
theorem FMap.notCells {w : World} {b : Nat} {φ : Nat → Nat} {l : Nm} (h : FMap w b φ l) {g : Nat} {cur : Array Value} {e : TypeId} {z : Nat × Nat} (hg : w.heap[g]? = some (.cells cur e z)) : g ≠ b := by
  obtain ⟨D, h1, _⟩ := h; exact ownsMap_notCells h1 hg
theorem FMap.made (w : World) (φ : Nat → Nat) : FMap (w.alloc (.map #[] 0)) w.heap.size φ [] := ⟨_, World.ownsMap_made w _ _ _, FilesAre.none φ⟩
theorem wr_turned {w w' : World} {b : Nat} (h : w.mapTurned w' b) : Wr (fun k => k = b) w w' := by
  have hg := h.grown
  exact (Wr.refl _ w).grown hg (fun k e => .inl (by simpa using e.symm))
/-! ### a change of names -/
def chCells (φ : Nat → Nat) (c : Ch) : List Value :=
  if c.kind = 1 then [.bool true, .string ⟨#[]⟩, strV c.src, .pointer (some ⟨φ c.file, 0, none⟩)] else [.bool false, strV c.src, strV c.dst, .pointer none]
def DoneEnd (m : Nat) (φ : Nat → Nat) (l : Nm) (w : World) (e : Ending) (w' : World) : Prop := e = .returned (.tuple #[]) ∧ FMap w' m φ l ∧ Wr (fun k => k = m) w w'
theorem zeroP (w : World) : (zeroValue 70).run Try.prog w = .ok (.pointer none) w := by kernel_rfl
theorem key_str {k : Tx} (h : k.length ≤ 140737488355328) : keyOf Try.prog 9 (strV k) = some (litB k) := by
  have := WideMaps.keyOf_string_mk (P := Try.prog) Try.underlying9 (s := str k) (by rw [str_size]; unfold maxLen; omega)
  rw [strV, this]; rfl
set_option maxHeartbeats 400000 in
theorem do_create {w : World} {m : Nat} {φ : Nat → Nat} {l : Nm} (h : FMap w m φ l) (hr : Pl.RisN l) (hl : l.length ≤ 1099511627776) (k : Tx) (f : Nat) (hk : k.length ≤ 140737488355328) :
    Calls Try.prog 32 #[.agg #[.bool true, .string ⟨#[]⟩, strV k, .pointer (some ⟨φ f, 0, none⟩)], .map (some m)] w (DoneEnd m φ (Pl.wi l k f) w) := by
  obtain ⟨D, hown, hf⟩ := h
  have HF := Lib.hid (hf.put hr k f)
  have hk2 := key_str hk
  unfold strV at hk2 ⊢
  clear hf
  go_enter Try.func32, Try.ntmps32
  go_wp2_with (at_mapUpdate; refine wpList_mapUpdate_in _ rfl _ _ _ 66 rfl 9 70 strKeyed Try.underlying66 ptrE m l.length D rfl (hown.alloc _) (by unfold maxLen; omega) _ _ _ rfl rfl hk2 _ _ (ptrE_at (φ f)) ?_; intro w2 hown2 ht2)
  go_end0
  exact ⟨rfl, FMap.of hown2 HF.out, ((Wr.refl _ _).alloc _).trans (wr_turned ht2) (Grew.refl _ _)⟩
set_option maxHeartbeats 400000 in
theorem do_remove {w : World} {m : Nat} {φ : Nat → Nat} {l : Nm} (h : FMap w m φ l) (hr : Pl.RisN l) (k : Tx) (hk : k.length ≤ 140737488355328) :
    Calls Try.prog 32 #[.agg #[.bool false, strV k, .string ⟨#[]⟩, .pointer none], .map (some m)] w (DoneEnd m φ (Pl.wo l k) w) := by
  obtain ⟨D, hown, hf⟩ := h
  have HF := Lib.hid (hf.del hr k)
  have hk2 := key_str hk
  unfold strV at hk2 ⊢
  clear hf
  go_enter Try.func32, Try.ntmps32
  go_wp2_with (at_delete; refine wpList_delete_own _ rfl _ _ 66 9 rfl 70 strKeyed Try.underlying66 ptrE m l.length D rfl (hown.alloc _) _ _ rfl hk2 ?_; intro w2 hown2 ht2)
  go_end0
  exact ⟨rfl, FMap.of hown2 HF.out, ((Wr.refl _ _).alloc _).trans (wr_turned ht2) (Grew.refl _ _)⟩
theorem box_kept {w w2 : World} {m : Nat} {c : Array Value} {e : TypeId} {g : Nat} (h : w.heap[g]? = some (.cells c e (0, 0))) (hm : m < g) (ht : w.mapTurned w2 m) : (w2.cell? ⟨g, 0, none⟩ = c[0]?) ∧ (w2.cell? ⟨g, 1, none⟩ = c[1]?) ∧ (w2.cell? ⟨g, 2, none⟩ = c[2]?) ∧ (w2.cell? ⟨g, 3, none⟩ = c[3]?) := by
  have h2 := ((wr_turned ht).block g (Array.getElem?_eq_some_iff.1 h).1 (by omega)).trans h
  refine ⟨?_, ?_, ?_, ?_⟩ <;> (simp only [World.cell?, h2]; rfl)
set_option maxRecDepth 100000 in
set_option maxHeartbeats 400000 in
theorem do_rename {w : World} {m : Nat} {φ : Nat → Nat} {l : Nm} (h : FMap w m φ l) (hr : Pl.RisN l) (hl : l.length ≤ 1099511627776) (a b : Tx) (f : Nat) (hf0 : Pl.find l a = some f) (hb0 : b ≠ []) (ha : a.length ≤ 140737488355328) (hb : b.length ≤ 140737488355328) :
    Calls Try.prog 32 #[.agg #[.bool false, strV a, strV b, .pointer none], .map (some m)] w (DoneEnd m φ (Pl.wi (Pl.wo l a) b f) w) := by
  obtain ⟨D, hown, hf⟩ := h
  have HF := Lib.hid ((hf.del hr a).put (Pl.ris_wo hr a) b f)
  have HA := Lib.hid (hf.at_ a f hf0)
  have hhas : Maps.has D (litB a) = true := by rw [hf.has, hf0]; rfl
  have hlen : (Pl.wo l a).length ≤ l.length := List.length_filter_le _ _
  have hka := key_str ha
  have hkb := key_str hb
  have hb1 : ((str b).toList == ([] : List UInt8)) = false := by rw [str_none, decide_eq_false hb0]
  have hb2 : (str b).toList.isEmpty = false := by rw [str_empty, decide_eq_false hb0]
  have hml := hown.lt
  have D0 := Lib.hid (heap_alloc_new w (.cells #[.bool false, strV a, strV b, .pointer none] 72))
  unfold strV at hka hkb D0 ⊢
  clear hf hf0 hb0
  go_enter Try.func32, Try.ntmps32
  go_wp2_with (first
    | (at_lookup; refine wpList_lookup_own_ok _ rfl _ _ 66 rfl 9 70 strKeyed Try.underlying66 ptrE (zeroP _) .nil [] rfl m l.length D rfl (hown.alloc _) _ _ rfl hka ?_; intro v ps hv; rw [HA.out] at hv; obtain rfl := ptrE_lit hv; clear hv)
    | (at_delete; refine wpList_delete_own _ rfl _ _ 66 9 rfl 70 strKeyed Try.underlying66 ptrE m l.length D rfl (hown.alloc _) _ _ rfl hka ?_; intro w2 hown2 ht2; obtain ⟨q0, q1, q2, q3⟩ := box_kept D0.out hml ht2)
    | (at_mapUpdate; refine wpList_mapUpdate_in _ rfl _ _ _ 66 rfl 9 70 strKeyed Try.underlying66 ptrE m l.length _ rfl hown2 (by unfold maxLen; omega) _ _ _ rfl rfl hkb _ _ (ptrE_at (φ f)) ?_; intro w3 hown3 ht3))
  go_end0
  exact ⟨rfl, FMap.of hown3 HF.out, ((Wr.refl _ _).alloc _).trans ((wr_turned ht2).trans (wr_turned ht3) (Grew.refl _ _)) (Grew.refl _ _)⟩
/-- A change of names, whatever it is. -/
theorem do_any {w : World} {m N : Nat} {φ : Nat → Nat} {l : Nm} (h : FMap w m φ l) (hr : Pl.RisN l) (hl : l.length ≤ 1099511627776) {c : Ch} (hc : Pl.okc N l c) (hs : Pl.ShortC c) :
    Calls Try.prog 32 #[.agg (chCells φ c).toArray, .map (some m)] w (DoneEnd m φ (Pl.change l c) w) := by
  unfold chCells Pl.change
  rcases hc with ⟨e, _⟩ | ⟨e, h1, h2, _⟩ | ⟨e, h2⟩
  · rw [if_pos e, if_pos e]; exact do_create h hr hl _ _ hs.1
  · rw [if_neg (by omega), if_neg (by omega), if_pos e]; exact do_rename h hr hl _ _ _ h1 h2 hs.1 hs.2
  · rw [if_neg (by omega), if_neg (by omega), if_neg (by omega), h2]; exact do_remove h hr _ hs.1
end Go.Proofs.Ytbjlffhnkcbnmaa
