/- Worlds that differ by new blocks and by one block's cells; decoders' blocks. -/
import Derived.Test.YtpngmbdchceikaaDoorRDec
import Derived.Test.YtpngmbdchceikaaDoorPlainResp4
import Derived.Laws.EntriesVeiled
namespace Go.Proofs.YtpngmbdchceikaaDoor
open Go.ChangeShapes Go.WideShapes Go.ChangeAt Go.RowKit
open Pl (R Rd)
set_option linter.unusedVariables false

/-- w' is w with new blocks, and with other cells in block g. -/
structure But (g : Nat) (w w' : World) : Prop where
  os : w'.os = w.os
  tape : w'.tape = w.tape
  output : w'.output = w.output
  size : w.heap.size ≤ w'.heap.size
  block : ∀ k, k < w.heap.size → k ≠ g → w'.heap[k]? = w.heap[k]?
theorem But.refl (g : Nat) (w : World) : But g w w := ⟨rfl, rfl, rfl, Nat.le_refl _, fun _ _ _ => rfl⟩
theorem But.trans {g : Nat} {a b c : World} (h : But g a b) (k : But g b c) : But g a c :=
  ⟨k.os.trans h.os, k.tape.trans h.tape, k.output.trans h.output, Nat.le_trans h.size k.size, fun i hi hg => (k.block i (by have := h.size; omega) hg).trans (h.block i hi hg)⟩
theorem But.of_below {g : Nat} {w w' : World} (h : Below w.heap.size w w') : But g w w' := ⟨h.os, h.tape, h.output, h.size, fun k hk _ => h.block k hk⟩
theorem But.below {g B : Nat} {w w' : World} (h : But g w w') (hg : B ≤ g) (hB : B ≤ w.heap.size) : Below B w w' := ⟨h.os, h.tape, h.output, h.size, fun k hk => h.block k (by omega) (by omega)⟩
theorem But.alloc {g : Nat} {a w : World} (h : But g a w) (o : Obj) : But g a (w.alloc o) := h.trans (.of_below ((Below.refl _ _).alloc (Nat.le_refl _) o))
theorem But.set {g : Nat} {a w : World} (h : But g a w) {p : Addr} (hp : p.block = g ∨ a.heap.size ≤ p.block) (u : Value) : But g a (w.setCell p u) :=
  ⟨h.os, h.tape, h.output, by have := h.size; simpa [World.setCell] using this, fun k hk hg => (heap_setCell_other w p k u (by omega)).trans (h.block k hk hg)⟩
theorem But.drew {g : Nat} {a w : World} (h : But g a w) (n : Nat) : But g a (w.drewN n) := ⟨h.os, h.tape, h.output, h.size, h.block⟩

/-- A decoder: what is held; how it reads on; whether it has failed. -/
def Blk3 (w : World) (g : Nat) (a b c : Value) : Prop := w.heap[g]? = some (.cells #[a, b, c] 71 (0, 0))
theorem Blk3.cells {w : World} {g : Nat} {a b c : Value} (h : Blk3 w g a b c) : w.cell? ⟨g, 0, none⟩ = some a ∧ w.cell? ⟨g, 1, none⟩ = some b ∧ w.cell? ⟨g, 2, none⟩ = some c := by
  unfold Blk3 at h
  simp [World.cell?, h]
theorem Blk3.free {w : World} {g : Nat} {a b c : Value} (h : Blk3 w g a b c) (i : Nat) : w.frozen? ⟨g, i, none⟩ = false := by
  unfold Blk3 at h
  simp [World.frozen?, h]
theorem Blk3.kept {w w' : World} {g : Nat} {a b c : Value} (h : Blk3 w g a b c) (hb : w'.heap[g]? = w.heap[g]?) : Blk3 w' g a b c := hb.trans h
theorem Blk3.lt {w : World} {g : Nat} {a b c : Value} (h : Blk3 w g a b c) : g < w.heap.size := (Array.getElem?_eq_some_iff.1 h).1
theorem Blk3.later {w w' : World} {g : Nat} {a b c : Value} (h : Blk3 w g a b c) (hb : Below w.heap.size w w') : Blk3 w' g a b c := h.kept (hb.block g h.lt)
theorem Blk3.alloc {w : World} {g : Nat} {a b c : Value} (h : Blk3 w g a b c) (o : Obj) : Blk3 (w.alloc o) g a b c := (heap_alloc_old w o h.lt).trans h
theorem Blk3.set0 {w : World} {g : Nat} {a b c : Value} (h : Blk3 w g a b c) (u : Value) : Blk3 (w.setCell ⟨g, 0, none⟩ u) g u b c := heap_setCell_same w g 0 _ _ u h
theorem Blk3.set1 {w : World} {g : Nat} {a b c : Value} (h : Blk3 w g a b c) (u : Value) : Blk3 (w.setCell ⟨g, 1, none⟩ u) g a u c := heap_setCell_same w g 1 _ _ u h
theorem Blk3.set2 {w : World} {g : Nat} {a b c : Value} (h : Blk3 w g a b c) (u : Value) : Blk3 (w.setCell ⟨g, 2, none⟩ u) g a b u := heap_setCell_same w g 2 _ _ u h
theorem Blk3.other {w : World} {g : Nat} {a b c : Value} (h : Blk3 w g a b c) {p : Addr} (hp : g ≠ p.block) (u : Value) : Blk3 (w.setCell p u) g a b c := (heap_setCell_other w p g u hp).trans h
theorem Blk4.other {w : World} {g : Nat} {a b c d : Value} (h : Blk4 w g a b c d) {p : Addr} (hp : g ≠ p.block) (u : Value) : Blk4 (w.setCell p u) g a b c d := (heap_setCell_other w p g u hp).trans h
/-- A block of one pointer. -/
def Blk1 (w : World) (v g : Nat) : Prop := w.heap[v]? = some (.cells #[.pointer (some ⟨g, 0, none⟩)] 42 (0, 0))
theorem Blk1.cell {w : World} {v g : Nat} (h : Blk1 w v g) : w.cell? ⟨v, 0, none⟩ = some (.pointer (some ⟨g, 0, none⟩)) := by
  unfold Blk1 at h
  simp [World.cell?, h]
theorem Blk1.lt {w : World} {v g : Nat} (h : Blk1 w v g) : v < w.heap.size := (Array.getElem?_eq_some_iff.1 h).1
theorem Blk1.kept {w w' : World} {v g : Nat} (h : Blk1 w v g) (hb : w'.heap[v]? = w.heap[v]?) : Blk1 w' v g := hb.trans h
theorem Blk1.later {w w' : World} {v g : Nat} (h : Blk1 w v g) (hb : Below w.heap.size w w') : Blk1 w' v g := h.kept (hb.block v h.lt)
theorem Blk1.alloc {w : World} {v g : Nat} (h : Blk1 w v g) (o : Obj) : Blk1 (w.alloc o) v g := (heap_alloc_old w o h.lt).trans h
theorem Blk1.other {w : World} {v g : Nat} (h : Blk1 w v g) {p : Addr} (hp : v ≠ p.block) (u : Value) : Blk1 (w.setCell p u) v g := (heap_setCell_other w p v u hp).trans h
abbrev nextF (v : Nat) : Value := .func (.func 38) #[] #[.pointer (some ⟨v, 0, none⟩)]
/-- A decoder at block g (v: the variable that its function reads) that holds such bytes, or has failed. -/
structure DecIs (w : World) (g v : Nat) (st : Option (List UInt8)) : Prop where
  box : Blk3 w g (.string (str (st.getD []))) (nextF v) (.bool st.isNone)
  var : Blk1 w v g
theorem DecIs.ne {w : World} {g v : Nat} {st : Option (List UInt8)} (h : DecIs w g v st) : v ≠ g := fun e => by
  have h1 := h.box
  have h2 := h.var
  unfold Blk3 at h1
  unfold Blk1 at h2
  rw [e, h1] at h2
  simp at h2
theorem DecIs.later {w w' : World} {g v : Nat} {st : Option (List UInt8)} (h : DecIs w g v st) (hb : Below w.heap.size w w') : DecIs w' g v st := ⟨h.box.later hb, h.var.later hb⟩
/-- Another decoder's call leaves it. -/
theorem DecIs.spared {w w' : World} {g v x : Nat} {st : Option (List UInt8)} (h : DecIs w g v st) (hb : But x w w') (h1 : g ≠ x) (h2 : v ≠ x) : DecIs w' g v st := ⟨h.box.kept (hb.block g h.box.lt h1), h.var.kept (hb.block v h.var.lt h2)⟩
theorem RRow.but {base g : Nat} {w w' : World} {v : Value} {l : List R} (h : RRow base w v l) (hb : But g w w') (hg : g < base) : RRow base w' v l := h.kept hb.size fun b h1 h2 => hb.block b h2 (by omega)
/-- The reference's decoder. -/
def Blk2 (w : World) (g : Nat) (a b : Value) : Prop := w.heap[g]? = some (.cells #[a, b] 46 (0, 0))
theorem Blk2.cells {w : World} {g : Nat} {a b : Value} (h : Blk2 w g a b) : w.cell? ⟨g, 0, none⟩ = some a ∧ w.cell? ⟨g, 1, none⟩ = some b := by
  unfold Blk2 at h
  simp [World.cell?, h]
theorem Blk2.free {w : World} {g : Nat} {a b : Value} (h : Blk2 w g a b) (i : Nat) : w.frozen? ⟨g, i, none⟩ = false := by
  unfold Blk2 at h
  simp [World.frozen?, h]
theorem Blk2.kept {w w' : World} {g : Nat} {a b : Value} (h : Blk2 w g a b) (hb : w'.heap[g]? = w.heap[g]?) : Blk2 w' g a b := hb.trans h
theorem Blk2.lt {w : World} {g : Nat} {a b : Value} (h : Blk2 w g a b) : g < w.heap.size := (Array.getElem?_eq_some_iff.1 h).1
theorem Blk2.later {w w' : World} {g : Nat} {a b : Value} (h : Blk2 w g a b) (hb : Below w.heap.size w w') : Blk2 w' g a b := h.kept (hb.block g h.lt)
theorem Blk2.alloc {w : World} {g : Nat} {a b : Value} (h : Blk2 w g a b) (o : Obj) : Blk2 (w.alloc o) g a b := (heap_alloc_old w o h.lt).trans h
theorem Blk2.set0 {w : World} {g : Nat} {a b : Value} (h : Blk2 w g a b) (u : Value) : Blk2 (w.setCell ⟨g, 0, none⟩ u) g u b := heap_setCell_same w g 0 _ _ u h
theorem Blk2.set1 {w : World} {g : Nat} {a b : Value} (h : Blk2 w g a b) (u : Value) : Blk2 (w.setCell ⟨g, 1, none⟩ u) g a u := heap_setCell_same w g 1 _ _ u h
theorem Blk2.other {w : World} {g : Nat} {a b : Value} (h : Blk2 w g a b) {p : Addr} (hp : g ≠ p.block) (u : Value) : Blk2 (w.setCell p u) g a b := (heap_setCell_other w p g u hp).trans h
def RDecIs (w : World) (g : Nat) (st : Option (List UInt8)) : Prop := Blk2 w g (.string (str (st.getD []))) (.bool st.isNone)

/-! ### New, Held -/
set_option maxRecDepth 100000 in
set_option maxHeartbeats 1600000 in
theorem new_any (w : World) : Calls Tryd.prog 22 #[] w fun e w' => e = .returned (.pointer (some ⟨w.heap.size, 0, none⟩)) ∧ DecIs w' w.heap.size (w.heap.size + 1) (some []) ∧ Below w.heap.size w w' ∧ w'.heap.size = w.heap.size + 2 := by
  have X0 : ∀ f, Blk3 (w.alloc (.cells #[.string ⟨#[]⟩, f, .bool false] 71)) w.heap.size (.string ⟨#[]⟩) f (.bool false) := fun f => heap_alloc_new w _
  have V0 : ∀ f, Blk1 ((w.alloc (.cells #[.string ⟨#[]⟩, f, .bool false] 71)).alloc (.cells #[.pointer (some ⟨w.heap.size, 0, none⟩)] 42)) (w.heap.size + 1) w.heap.size := fun f => by
    have := heap_alloc_new (w.alloc (.cells #[.string ⟨#[]⟩, f, .bool false] 71)) (.cells #[.pointer (some ⟨w.heap.size, 0, none⟩)] 42)
    simpa [Blk1] using this
  have X1 := Lib.hid (fun f o => (X0 f).alloc o)
  have V1 := Lib.hid V0
  have v2 := fun f => (V1.out f).cell
  clear X0 V0
  go_enter Tryd.func22, Tryd.ntmps22
  go_wp2
  go_ret
  exact ⟨rfl, ⟨X1.out _ _, V1.out _⟩, ((Below.refl _ _).alloc (Nat.le_refl _) _).alloc (by simp) _, by simp⟩
set_option maxRecDepth 100000 in
theorem held_nil (w : World) : Calls Tryd.prog 26 #[.pointer none] w fun e w' => e = .returned (.int .i64 0) ∧ Below w.heap.size w w' := by
  go_enter Tryd.func26, Tryd.ntmps26
  go_wp2
  go_ret
  exact ⟨rfl, Below.refl _ _⟩
set_option maxRecDepth 100000 in
theorem held_any {g v : Nat} {st : Option (List UInt8)} (w : World) (hD : DecIs w g v st) : Calls Tryd.prog 26 #[.pointer (some ⟨g, 0, none⟩)] w fun e w' => e = .returned (.int .i64 (st.getD []).length) ∧ Below w.heap.size w w' := by
  obtain ⟨d0, d1, d2⟩ := hD.box.cells
  obtain ⟨T, hT⟩ : ∃ T, str (st.getD []) = T := ⟨_, rfl⟩
  have hs : ((st.getD []).length : Int) = T.size := by rw [← hT, str_size]
  rw [hT] at d0
  clear d1 d2 hD
  go_enter Tryd.func26, Tryd.ntmps26
  go_wp2
  go_ret
  exact ⟨by rw [hs]; rfl, Below.refl _ _⟩
end Go.Proofs.YtpngmbdchceikaaDoor
