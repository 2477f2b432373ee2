/- Rows of bytes that a call made for itself: what a conversion of a text lays, a store into it, and the text back. -/
import Derived.Test.YtgdebcpnihibjaaDoorBase
namespace Go.Proofs.YtgdebcpnihibjaaDoor
open Go.ChangeShapes Go.WideShapes Go.ChangeAt Go.RowKit
set_option linter.unusedVariables false

/-- Block g holds the n bytes f first, and none of these is frozen. -/
def BRow (w : World) (g n : Nat) (f : Nat → UInt8) : Prop :=
  ∃ cs t lo hi, w.heap[g]? = some (.cells cs t (lo, hi)) ∧ (lo ≥ n ∨ (lo = 0 ∧ hi = 0)) ∧ ∀ i, i < n → cs[i]? = some (.int .u8 ((f i).toNat : Int))

namespace BRow
variable {w w' : World} {g n : Nat} {f : Nat → UInt8}
theorem cell (h : BRow w g n f) {i : Nat} (hi : i < n) : w.cell? ⟨g, i, none⟩ = some (.int .u8 ((f i).toNat : Int)) := by
  obtain ⟨cs, t, lo, hi', hb, _, hc⟩ := h
  simp [World.cell?, hb, hc i hi]
theorem frozen (h : BRow w g n f) {i : Nat} (hi : i < n) : w.frozen? ⟨g, i, none⟩ = false := by
  obtain ⟨cs, t, lo, hi', hb, hz, _⟩ := h
  simp only [World.frozen?, hb]
  simp
  omega
theorem lt (h : BRow w g n f) : g < w.heap.size := by
  obtain ⟨cs, t, lo, hi', hb, _⟩ := h
  exact (Array.getElem?_eq_some_iff.1 hb).1
theorem of_block (h : BRow w g n f) (e : w'.heap[g]? = w.heap[g]?) : BRow w' g n f := by
  obtain ⟨cs, t, lo, hi', hb, r⟩ := h
  exact ⟨cs, t, lo, hi', e.trans hb, r⟩
theorem below (h : BRow w g n f) {B : Nat} (hb : Below B w w') (hg : g < B) : BRow w' g n f := h.of_block (hb.block g hg)
theorem drew (h : BRow w g n f) : BRow w.drew g n f := h
theorem drewN (h : BRow w g n f) (k : Nat) : BRow (w.drewN k) g n f := h
theorem alloc (h : BRow w g n f) (o : Obj) : BRow (w.alloc o) g n f := h.of_block (Below.heap_alloc w o g h.lt)
theorem far (h : BRow w g n f) {p : Addr} (hp : g ≠ p.block) (u : Value) : BRow (w.setCell p u) g n f := h.of_block (Below.heap_setCell w p u g hp)
theorem congr (h : BRow w g n f) {f' : Nat → UInt8} (e : ∀ i, i < n → f i = f' i) : BRow w g n f' := by
  obtain ⟨cs, t, lo, hi', hb, hz, hc⟩ := h
  exact ⟨cs, t, lo, hi', hb, hz, fun i hi => by rw [hc i hi, e i hi]⟩
theorem set (h : BRow w g n f) (i : Nat) (b : UInt8) : BRow (w.setCell ⟨g, i, none⟩ (.int .u8 (b.toNat : Int))) g n (fun j => if j = i then b else f j) := by
  obtain ⟨cs, t, lo, hi', hb, hz, hc⟩ := h
  refine ⟨cs.setIfInBounds i (.int .u8 (b.toNat : Int)), t, lo, hi', ?_, hz, fun j hj => ?_⟩
  · simp [World.setCell, Array.getElem?_modify, hb]
  · rw [Array.getElem?_setIfInBounds]
    by_cases e : i = j
    · subst e
      have hlt : i < cs.size := (Array.getElem?_eq_some_iff.1 (hc i hj)).1
      simp [hlt]
    · rw [if_neg e, hc j hj]
      have e' : ¬ j = i := fun h => e h.symm
      simp [e']
theorem string {P : Program} (src e : TypeId) (hs : P.underlying src = some (.slice e)) (he : P.underlying e = some (.int .u8)) (h : BRow w g n f) (cap : Nat) {dst : TypeId} (hd : P.underlying dst = some .string) :
    (convert src dst (.slice (some ⟨g, 0, none⟩) n cap)).run P w = .ok (.string (str ((List.range n).map f))) w := by
  have hc := run_convert_bytes_back (P := P) w src dst e ⟨g, 0, none⟩ cap ((List.range n).map f) hs he hd (fun j hj => by
    have hj' : j < n := by simpa using hj
    have e : (⟨g, 0, none⟩ : Addr).add j = ⟨g, j, none⟩ := by unfold Addr.add; split <;> simp_all
    rw [e, h.cell hj']
    simp)
  simp only [List.length_map, List.length_range] at hc
  exact hc
end BRow

/-- The byte at a place of a text. -/
def byteAt (s : ByteArray) (i : Nat) : UInt8 := s.data.toList.getD i 0
theorem byteAt_eq (s : ByteArray) {i : Nat} (h : i < s.size) : byteAt s i = s[i] := by
  unfold byteAt
  rw [List.getD_eq_getElem?_getD, List.getElem?_eq_getElem (by rw [len_toList]; exact h)]
  rfl
theorem map_byteAt (s : ByteArray) : (List.range s.size).map (byteAt s) = s.data.toList := by
  apply List.ext_getElem (by simp)
  intro i h1 h2
  simp only [List.getElem_map, List.getElem_range]
  unfold byteAt
  rw [List.getD_eq_getElem?_getD, List.getElem?_eq_getElem h2]
  rfl

/-- A text as bytes of the call's own: there is a world behind it of which this is known. -/
theorem bytes_of_text {P : Program} (w : World) (src dst e : TypeId) (s : ByteArray) (hs : P.underlying src = some .string) (hd : P.underlying dst = some (.slice e)) (he : P.underlying e = some (.int .u8)) :
    ∃ cap w1, (convert src dst (.string s)).run P w = .ok (.slice (some ⟨w.heap.size, 0, none⟩) s.size cap) w1 ∧ BRow w1 w.heap.size s.size (byteAt s) ∧ Below w.heap.size w w1 ∧ w.heap.size < w1.heap.size ∧ s.size ≤ cap := by
  refine ⟨_, _, run_bytes_of_string w src dst e s hs hd he, ?_, (Below.refl _ _).drew.alloc (Nat.le_refl _) _, ?_, grownCap_ge w s.size 0 e⟩
  · refine ⟨_, _, _, _, heap_alloc_new _ _, Or.inl ?_, fun i hi => ?_⟩
    · simp only [bytesRow, Array.size_append, Array.size_map]
      show s.data.size + _ ≥ s.data.size
      omega
    · rw [byteAt_eq s hi]
      have hd' : i < s.data.size := hi
      simp only [bytesRow]
      rw [Array.getElem?_append_left (by simpa using hd'), Array.getElem?_map, Array.getElem?_eq_getElem hd']
      rfl
  · show w.heap.size < (w.heap.push _).size
    simp

end Go.Proofs.YtgdebcpnihibjaaDoor
