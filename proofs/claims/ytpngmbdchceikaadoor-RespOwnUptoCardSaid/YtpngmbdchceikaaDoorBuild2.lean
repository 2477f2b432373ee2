/- strings.Builder: WriteString, and what it spares. -/
import Derived.Test.YtpngmbdchceikaaDoorBuild
namespace Go.Proofs.YtpngmbdchceikaaDoor
open Go.ChangeShapes Go.WideShapes Go.ChangeAt Go.RowKit
set_option linter.unusedVariables false

/-- All blocks that hold no builder and no bytes are as they were. -/
def Spares (w w' : World) : Prop := ∀ (g : Nat) (T : TypeId) (cs : Array Value) (fr : Nat × Nat), w.heap[g]? = some (.cells cs T fr) → T ≠ 63 → T ≠ 5 → w'.heap[g]? = w.heap[g]?
theorem Spares.refl (w : World) : Spares w w := fun _ _ _ _ _ _ _ => rfl
theorem Spares.trans {w w' w'' : World} (h : Spares w w') (h' : Spares w' w'') : Spares w w'' := fun g T cs fr hg h1 h2 => by
  have e := h g T cs fr hg h1 h2
  exact (h' g T cs fr (e.trans hg) h1 h2).trans e
theorem Spares.below {w w' : World} (h : Below w.heap.size w w') : Spares w w' := fun g T cs fr hg _ _ => h.block g (Array.getElem?_eq_some_iff.1 hg).1
theorem Spares.set {w : World} {g : Nat} {cs : Array Value} {fr : Nat × Nat} (h : w.heap[g]? = some (.cells cs 63 fr)) (p : Addr) (hp : p.block = g) (u : Value) : Spares w (w.setCell p u) := fun k T cs' fr' hk h1 h2 =>
  heap_setCell_other w p k u fun e => by
    rw [e, hp, h] at hk
    injection hk with hk; injection hk with _ hk _
    exact h1 hk.symm
theorem Spares.grown {w w' : World} {B n : Nat} {v : Value} {xs : List Value} (h : w.ownsRow B 5 1 v n xs) (hg : w.grownBy w' v.ownBlock) : Spares w w' := fun k T cs fr hk h1 h2 => by
  refine hg.block k (Array.getElem?_eq_some_iff.1 hk).1 fun e => ?_
  rcases h.2 with ⟨rfl, _⟩ | ⟨g, cap, cur, rfl, _, hgg, _⟩
  · cases e
  · injection e with e
    subst e
    rw [hgg] at hk
    injection hk with hk; injection hk with _ hk _
    exact h2 hk.symm
theorem Bld.later {B b : Nat} {l : List UInt8} {w w' : World} (h : Bld B b l w) (hb : Below w.heap.size w w') : Bld B b l w' := by
  have key : ∀ p, Lib.BuilderAt 63 5 B b p (Lib.byteCells l) w → Lib.BuilderAt 63 5 B b p (Lib.byteCells l) w' := fun p ⟨hB, v, hbk, hown, hne⟩ =>
    ⟨hB, v, (hb.block b (Array.getElem?_eq_some_iff.1 hbk).1).trans hbk, hown.kept (row := none) ⟨hb.os, hb.tape, hb.output, hb.size, fun k hk _ => hb.block k hk⟩ (by cases hv : v.ownBlock <;> simp), hne⟩
  exact h.imp (key _) (key _)
theorem copyCheck_s (B b : Nat) (bs : List Value) (w : World) (h : Lib.IsBuilder 63 5 B b bs w) :
    Calls Tryd.prog 54 #[.pointer (some ⟨b, 0, none⟩)] w fun e w' => e = .returned (.tuple #[]) ∧ (Lib.BuilderAt 63 5 B b (.pointer (some ⟨b, 0, none⟩)) bs w' ∧ Below B w w' ∧ Spares w w') := by
  rcases h with h | h
  · refine (copyCheck_fresh b w h.cell0 h.shape h.frozen0).mono ?_
    rintro e w' ⟨rfl, rfl⟩
    have h2 := h
    obtain ⟨_, v, hbk, _⟩ := h2
    exact ⟨rfl, h.used _, (Below.refl B w).setCell (p := ⟨b, 0, none⟩) h.1 _, Spares.set hbk ⟨b, 0, none⟩ rfl _⟩
  · refine (copyCheck_used b w h.cell0).mono ?_
    rintro e w' ⟨rfl, rfl⟩
    exact ⟨rfl, h, Below.refl B _, Spares.refl _⟩
set_option maxHeartbeats 1600000 in
set_option maxRecDepth 100000 in
theorem writeString_s (B b : Nat) (l : List UInt8) (s : ByteArray) (w : World) (h : Bld B b l w) (hlen : l.length + s.size ≤ 140737488355328) (hBw : B ≤ w.heap.size) :
    Calls Tryd.prog 42 #[.pointer (some ⟨b, 0, none⟩), .string s] w fun e w' => e = .returned (.tuple #[.int .i64 s.size, .nilIface]) ∧ Bld B b (l ++ s.data.toList) w' ∧ Below B w w' ∧ Spares w w' := by
  obtain ⟨i0, hi, hz0, hz1, hz2⟩ := info_parts byteInf
  have hlen' : (Lib.byteCells l).length + s.size ≤ 140737488355328 := by rw [Lib.byteCells_length]; exact hlen
  obtain ⟨bs, hbs⟩ : ∃ bs, Lib.byteCells l = bs := ⟨_, rfl⟩
  have h0 : Lib.IsBuilder 63 5 B b bs w := hbs ▸ h
  rw [hbs] at hlen'
  have HH := Lib.hid h0
  have HB := Lib.hid hbs
  clear h h0 hbs hlen
  go_enter Tryd.func42, Tryd.ntmps42
  go_wp2_with fail
  ((with_reducible refine (copyCheck_s B b bs _ HH.out).mono ?_); rintro e w1 ⟨rfl, h1, hb1, hs1⟩)
  obtain ⟨hB, v, hbk, hown, hne⟩ := h1
  have c0 : w1.cell? ⟨b, 0, none⟩ = some (.pointer (some ⟨b, 0, none⟩)) := by rw [Lib.cell_of_heap hbk]; rfl
  have c1 : w1.cell? ⟨b, 1, none⟩ = some v := by rw [Lib.cell_of_heap hbk]; rfl
  have HK := Lib.hid hbk
  clear hbk
  go_wp2_with (at_builtin; refine Lib.wpList_append_own_string _ rfl _ _ 61 9 rfl B 5 i0 Tryd.underlying61 Tryd.underlying9 hi hz0 hz1 hz2 _ _ _ rfl hown s rfl ?c3 ?c4 ?c5 ?_)
  case c3 => unfold maxLen; omega
  case c4 => omega
  case c5 => have := hb1.size; omega
  intro v' w2 hown' hgrow _
  have hb2 := bld_block HK.out hne hgrow
  have d0 : w2.cell? ⟨b, 0, none⟩ = some (.pointer (some ⟨b, 0, none⟩)) := by rw [Lib.cell_of_heap hb2]; rfl
  have d1 : w2.cell? ⟨b, 1, none⟩ = some v := by rw [Lib.cell_of_heap hb2]; rfl
  have f1 : w2.frozen? ⟨b, 1, none⟩ = false := Lib.frozen_of_heap hb2 1
  have HK2 := Lib.hid hb2
  clear hb2 c0 c1
  obtain ⟨ao, n', cap, rfl⟩ : ∃ ao n' cap, v' = .slice ao n' cap := by
    rcases hown'.2 with ⟨hv, _⟩ | ⟨g, cap, cur, hv, _⟩
    · exact ⟨_, _, _, hv⟩
    · exact ⟨_, _, _, hv⟩
  have HO := Lib.hid hown'
  clear hown'
  go_wp2
  go_ret2
  refine ⟨rfl, .inr ?_, ?_, ?_⟩
  · have e : Lib.byteCells (l ++ s.data.toList) = bs ++ Lib.strCells s := by rw [← HB.out]; simp [Lib.byteCells, Lib.strCells]
    rw [e]
    have hown2 := HO.out
    exact Lib.BuilderAt.put (T := 63) (e := 5) hB HK2.out (bs' := bs ++ Lib.strCells s) (by simpa [Lib.strCells_length] using hown2) (by decide)
  · exact (hb1.grown hgrow (by have := hb1.size; omega) (fun k hk => (hown.lt k hk).1)).setCell (p := ⟨b, 1, none⟩) hB _
  · refine hs1.trans ?_
    refine (Spares.grown hown hgrow).trans ?_
    exact Spares.set HK2.out ⟨b, 1, none⟩ rfl _
end Go.Proofs.YtpngmbdchceikaaDoor
