/- The walks of a session's methods: what is watched, told in new memory. -/
import Derived.Test.YtflhcffpfiameaaSess7
import Derived.Test.YtflhcffpfiameaaIterL
import Derived.Sort.KeysCollected
namespace Go.Proofs.Ytflhcffpfiameaa
open Go.ChangeShapes Go.WideShapes Go.ChangeAt Go.RowKit Go.Maps Go.Sort Go.Shelf
set_option linter.unusedVariables false

/-- The iterator over a map's keys: a function value over one new block. -/
theorem keys_iter (mb : Option Nat) (W : World) : Calls Try.prog 46 #[.map mb] W fun e w' => e = .returned (.func (.func 55) #[] #[.pointer (some ⟨W.heap.size, 0, none⟩)]) ∧ w' = W.alloc (.cells #[.map mb] 56) :=
  callsIn_wide.1 (AnyZ.keys_in Try.keys46 Fence.wide 5 trivial rfl mb W)
theorem sorts_in (m : Nat) : AnyZ.SortsIn Try.prog Try.sorted45_ren Fence.wide m :=
  ⟨fun blk off cap ss W hH hblk hsz => callsIn_wide.2 (AnyM.slices_Sort_string Try.sort54 blk off cap ss W hH hblk hsz),
   fun p cap W => callsIn_wide.2 (AnyM.slices_Sort_string_none Try.sort54 p cap W)⟩
set_option maxHeartbeats 1000000 in
/-- The keys that it gives, sorted. -/
theorem sorted_keys {H : Type} (b nn : Nat) (D0 : DataW H) (R : Value → Option (DataW H × List MemPlace)) (w : World) (hown : w.ownsMap Try.prog 9 R b nn D0) (hmax : Maps.size D0 ≤ maxLen) (hbytes : Maps.size D0 * 16 ≤ 140737488355328) :
    Calls Try.prog 45 #[.func (.func 55) #[] #[.pointer (some ⟨w.heap.size, 0, none⟩)]] (w.alloc (.cells #[.map (some b)] 56)) fun e w' => ∃ (v : Value) (ss : List (List UInt8)), e = .returned v ∧ ss.Perm (strKeys D0) ∧
      w'.ownsRow (w.alloc (.cells #[.map (some b)] 56)).heap.size 9 1 v ss.length ((ss.mergeSort (fun x y => decide (x ≤ y))).map encStr) ∧ (v = .slice none 0 0 ↔ ss = []) ∧ Below (w.alloc (.cells #[.map (some b)] 56)).heap.size (w.alloc (.cells #[.map (some b)] 56)) w' := by
  have hbl := hown.lt
  have hseq : SeqGives Fence.wide 2 Try.prog 55 #[.pointer (some ⟨w.heap.size, 0, none⟩)] encStr (fun ss => ss.Perm (strKeys D0)) (Maps.size D0) (w.alloc (.cells #[.map (some b)] 56)) :=
    AnyZ.keys_gives (ρ := Try.keys46_ren) { Try.keys46 with } Fence.wide _ trivial rfl (by omega) w.heap.size b nn D0 _ (by simp) (by simp) (by
      obtain ⟨es, clock, hb, Ft, hs, hD⟩ := hown
      exact ⟨es, clock, (Below.heap_alloc _ _ b hbl).trans hb, Ft, hs, hD⟩)
  exact callsIn_wide.1 (AnyZ.sorted_in Try.sorted45 Fence.wide 5 trivial trivial trivial trivial rfl (by omega) (sorts_in _) (enters_of Try.func54 (by kernel_rfl) rfl) 55 #[.pointer (some ⟨w.heap.size, 0, none⟩)] trivial (enters_of Try.func55 (by kernel_rfl) rfl) _ _ hmax hbytes _ hseq)
/-- The keys, sorted. -/
def sortK (ks : List (List UInt8)) : List (List UInt8) := ks.mergeSort leB
theorem sortK_length (ks : List (List UInt8)) : (sortK ks).length = ks.length := (List.mergeSort_perm ks leB).length_eq
theorem mem_sortK {ks : List (List UInt8)} {x : List UInt8} : x ∈ sortK ks ↔ x ∈ ks := (List.mergeSort_perm ks leB).mem_iff
theorem SessAt.perm {w : World} {b : Nat} {F : Nat → Prop} {S : SessM} {qv : Value} {bm : Nat} {D : DataW Unit} (h : SessAt w b F S qv bm D) : S.keys.Perm (strKeys D) :=
  Collected.perm (left := fun _ => false) ⟨h.nodup, fun x => by
    have := h.keys.has x
    constructor
    · intro hx; refine ⟨?_, rfl⟩; rw [show (Lit.string x) = litB x from rfl, this]; simpa using hx
    · rintro ⟨hx, -⟩; rw [show (Lit.string x) = litB x from rfl, this] at hx; simpa using hx⟩ h.map strKeyed Try.underlying9 (fun _ => rfl)
def WatchedEnd (ks : List (List UInt8)) (w : World) (e : Ending) (w' : World) : Prop := ∃ v, e = .returned v ∧ ZRow w.heap.size w' v (textsB (sortK ks)) ∧ Below w.heap.size w w'
set_option maxHeartbeats 1600000 in
set_option maxRecDepth 100000 in
theorem watched_any {w : World} {b : Nat} {F : Nat → Prop} {S : SessM} (h : Sess w b F S) :
    Calls Try.prog 21 #[.pointer (some ⟨b, 0, none⟩)] w (WatchedEnd S.keys w) := by
  obtain ⟨qv, bm, D, h⟩ := h
  obtain ⟨c0, c1, c2, c3, c4, c5⟩ := h.cells
  have hsz := h.keys.size
  have hfew := h.few
  have HM := Lib.hid h.map
  have HP := Lib.hid (mergeSort_of_perm h.perm)
  have HL := Lib.hid h.perm.length_eq
  clear h c0 c1 c2 c3 c4
  go_enter Try.func21, Try.ntmps21
  go_wp2_with fail
  (refine (keys_iter _ _).mono ?_; rintro e w1 ⟨rfl, rfl⟩)
  go_wp2_with fail
  (refine (sorted_keys bm _ D _ w HM.out (by unfold maxLen; omega) (by omega)).mono ?_; rintro e w2 ⟨v, ss, rfl, hp, hrow, -, hb⟩)
  have hms : (ss.mergeSort (fun x y => decide (x ≤ y))) = sortK S.keys := (mergeSort_of_perm hp).trans HP.out.symm
  have hlen : ss.length = S.keys.length := hp.length_eq.trans HL.out.symm
  have hz : ZRow w.heap.size w2 v (textsB (sortK S.keys)) := ZRow.of_owns (C := (w.alloc (.cells #[.map (some bm)] 56)).heap.size) (n := ss.length) (by
    have : (textsB (sortK S.keys)).map Value.string = (ss.mergeSort (fun x y => decide (x ≤ y))).map encStr := by
      rw [hms]; simp [textsB, Function.comp_def, str]
    rw [this]; exact hrow) (by rw [textsB_length, sortK_length, hlen]) (fun g hg => by have := (hrow.lt g hg).1; simp at this; omega)
  have HZ := Lib.hid hz
  have HB := Lib.hid (((Below.refl w.heap.size w).alloc (Nat.le_refl _) _).trans (hb.mono (by simp)))
  obtain ⟨av, cv, rfl⟩ := hz.shape
  clear hp hrow hb hz hms hlen
  go_wp2
  go_ret
  exact ⟨_, rfl, HZ.out, HB.out⟩
end Go.Proofs.Ytflhcffpfiameaa
