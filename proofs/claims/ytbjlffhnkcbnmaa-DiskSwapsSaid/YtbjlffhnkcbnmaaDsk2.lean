/- The disk of the program: its block and what it leads to. -/
import Derived.Test.YtbjlffhnkcbnmaaDsk1
namespace Go.Proofs.Ytbjlffhnkcbnmaa
open Go.ChangeShapes Go.WideShapes Go.ChangeAt Go.RowKit Go.Maps
open Pl (Tx Fl Ch Nm Dk)
set_option linter.unusedVariables false

/-- A row of the call's own, of elements of k cells, its block one of F. -/
def RowC (w : World) (F : Nat → Prop) (e : TypeId) (k : Nat) (v : Value) (n : Nat) (xs : List Value) : Prop := w.ownsRow 0 e k v n xs ∧ ∀ g, v.ownBlock = some g → F g
namespace RowC
variable {w w' : World} {F G : Nat → Prop} {e : TypeId} {k n : Nat} {v : Value} {xs : List Value}
theorem shape (h : RowC w F e k v n xs) : ∃ ao cp, v = .slice ao n cp := by
  rcases h.1.2 with ⟨h1, h2⟩ | ⟨g, cap, cur, h1, _⟩
  · exact ⟨none, 0, by rw [h1, h2]⟩
  · exact ⟨_, _, h1⟩
theorem nil (w : World) (F : Nat → Prop) (e : TypeId) (k : Nat) : RowC w F e k (.slice none 0 0) 0 [] := ⟨⟨by simp, .inl ⟨rfl, rfl⟩⟩, fun g h => by simp [Value.ownBlock] at h⟩
theorem kept (h : RowC w F e k v n xs) (hw : Wr G w w') (hFG : ∀ k, F k → ¬ G k) : RowC w' F e k v n xs := by
  refine ⟨⟨h.1.1, ?_⟩, h.2⟩
  rcases h.1.2 with h1 | ⟨g, cap, cur, rfl, hb, hg, r⟩
  · exact .inl h1
  · exact .inr ⟨g, cap, cur, rfl, hb, (hw.block g (Array.getElem?_eq_some_iff.1 hg).1 (hFG g (h.2 g rfl))).trans hg, r⟩
theorem kept_by (h : RowC w F e k v n xs) (hw : ∀ (k : Nat) (cur : Array Value), w.heap[k]? = some (.cells cur e (0, 0)) → w'.heap[k]? = w.heap[k]?) : RowC w' F e k v n xs := by
  refine ⟨⟨h.1.1, ?_⟩, h.2⟩
  rcases h.1.2 with h1 | ⟨g, cap, cur, rfl, hb, hg, r⟩
  · exact .inl h1
  · exact .inr ⟨g, cap, cur, rfl, hb, (hw g cur hg).trans hg, r⟩
theorem mono (h : RowC w F e k v n xs) (hFG : ∀ k, F k → G k) : RowC w G e k v n xs := ⟨h.1, fun g hg => hFG g (h.2 g hg)⟩
theorem at_ (h : RowC w F e k v n xs) (h0 : 0 < n) (hk : 0 < k) : ∃ g cp, v = .slice (some ⟨g, 0, none⟩) n cp ∧ F g ∧ g < w.heap.size ∧ (∃ cur, w.heap[g]? = some (.cells cur e (0, 0))) ∧ ∀ j x, xs[j]? = some x → w.cell? ⟨g, j, none⟩ = some x := by
  rcases h.1.2 with ⟨h1, h2⟩ | ⟨g, cap, cur, rfl, h3, h4, h5, h6, h7, h8⟩
  · omega
  · refine ⟨g, cap, rfl, h.2 g rfl, (Array.getElem?_eq_some_iff.1 h4).1, ⟨cur, h4⟩, fun j x hx => ?_⟩
    have hj := (List.getElem?_eq_some_iff.1 hx).1
    rw [World.ownsRow.cellAt h.1 j (by rw [← h.1.1]; exact hj)]; exact hx
end RowC
/-- A row of faults that is only read. -/
def PRow (w : World) (F : Nat → Prop) (v : Value) (l : List (Int × Int × Int)) : Prop :=
  ∃ ao cp, v = .slice ao l.length cp ∧ (l = [] ∨ ∃ g off, ao = some ⟨g, off, none⟩ ∧ F g ∧ g < w.heap.size ∧ (∃ cur fz, w.heap[g]? = some (.cells cur 58 fz)) ∧ ∀ (j : Nat) p, l[j]? = some p → w.cell? ⟨g, off + j * 3, none⟩ = some (.int .i64 p.1) ∧ w.cell? ⟨g, off + j * 3 + 1, none⟩ = some (.int .i64 p.2.1) ∧ w.cell? ⟨g, off + j * 3 + 2, none⟩ = some (.int .i64 p.2.2))
namespace PRow
variable {w w' : World} {F G : Nat → Prop} {v : Value} {l : List (Int × Int × Int)}
theorem shape (h : PRow w F v l) : ∃ ao cp, v = .slice ao l.length cp := by obtain ⟨ao, cp, e, _⟩ := h; exact ⟨ao, cp, e⟩
theorem nil (w : World) (F : Nat → Prop) : PRow w F (.slice none 0 0) [] := ⟨none, 0, rfl, .inl rfl⟩
theorem same (h : PRow w F v l) (hs : w.heap.size ≤ w'.heap.size) (hw : ∀ (k : Nat) (cur : Array Value) fz, F k → w.heap[k]? = some (.cells cur 58 fz) → w'.heap[k]? = w.heap[k]?) : PRow w' F v l := by
  obtain ⟨ao, cp, e, h⟩ := h
  refine ⟨ao, cp, e, h.imp id ?_⟩
  rintro ⟨g, off, h1, hF, hg, ⟨cur, fz, hb⟩, hc⟩
  have he := hw g cur fz hF hb
  refine ⟨g, off, h1, hF, Nat.lt_of_lt_of_le hg hs, ⟨cur, fz, he.trans hb⟩, fun j p hp => ?_⟩
  have hcell : ∀ o, w'.cell? ⟨g, o, none⟩ = w.cell? ⟨g, o, none⟩ := fun o => World.cell?_of_block he
  obtain ⟨c0, c1, c2⟩ := hc j p hp
  exact ⟨(hcell _).trans c0, (hcell _).trans c1, (hcell _).trans c2⟩
theorem kept (h : PRow w F v l) (hw : Wr G w w') (hFG : ∀ k, F k → ¬ G k) : PRow w' F v l :=
  h.same hw.size fun k cur fz hF hb => hw.block k (Array.getElem?_eq_some_iff.1 hb).1 (hFG k hF)
theorem mono (h : PRow w F v l) (hFG : ∀ k, F k → G k) : PRow w G v l := by
  obtain ⟨ao, cp, e, h⟩ := h
  refine ⟨ao, cp, e, h.imp id ?_⟩
  rintro ⟨g, off, h1, hF, r⟩
  exact ⟨g, off, h1, hFG g hF, r⟩
theorem at_ {ao : Option Addr} {n cp : Nat} (h : PRow w F (.slice ao n cp) l) {j : Nat} {p : Int × Int × Int} (hp : l[j]? = some p) :
    ∃ g off, ao = some ⟨g, off, none⟩ ∧ F g ∧ g < w.heap.size ∧ w.cell? ⟨g, off + j * 3, none⟩ = some (.int .i64 p.1) ∧ w.cell? ⟨g, off + j * 3 + 1, none⟩ = some (.int .i64 p.2.1) ∧ w.cell? ⟨g, off + j * 3 + 2, none⟩ = some (.int .i64 p.2.2) := by
  obtain ⟨a, c, e, h⟩ := h
  cases e
  rcases h with h | ⟨g, off, rfl, hF, hg, _, hc⟩
  · rw [h] at hp; simp at hp
  · obtain ⟨c0, c1, c2⟩ := hc j p hp
    exact ⟨g, off, rfl, hF, hg, c0, c1, c2⟩
end PRow
/-- The disk's block and what it leads to. -/
structure DiskAt (w : World) (b : Nat) (F : Nat → Prop) (φ : Nat → Nat) (S : Dk) (nm lm : Nat) (ov pv : Value) : Prop where
  lt : ∀ k, F k → k < w.heap.size
  own : F b
  ownN : F nm
  ownL : F lm
  ne : nm ≠ lm
  block : w.heap[b]? = some (.cells #[.map (some nm), .map (some lm), ov, .int .i64 S.steps, pv, .bool S.down] 69 (0, 0))
  names : FMap w nm φ S.names
  last : FMap w lm φ S.last
  files : ∀ i f, S.files[i]? = some f → w.heap[φ i]? = some (.cells #[strV f.text, .int .i64 f.sync] 79 (0, 0)) ∧ F (φ i)
  inj : ∀ i j, i < S.files.length → j < S.files.length → φ i = φ j → i = j
  opn : RowC w F 72 4 ov S.opn.length (S.opn.flatMap (chCells φ))
  plan : PRow w F pv S.plan
def Disk (w : World) (b : Nat) (F : Nat → Prop) (φ : Nat → Nat) (S : Dk) : Prop := ∃ nm lm ov pv, DiskAt w b F φ S nm lm ov pv
namespace DiskAt
variable {w w' : World} {b : Nat} {F G : Nat → Prop} {φ : Nat → Nat} {S S' : Dk} {nm lm : Nat} {ov pv : Value}
theorem kept (h : DiskAt w b F φ S nm lm ov pv) (hw : Wr G w w') (hFG : ∀ k, F k → ¬ G k) : DiskAt w' b F φ S nm lm ov pv :=
  { h with
    lt := fun k hk => Nat.lt_of_lt_of_le (h.lt k hk) hw.size
    block := (hw.block b (h.lt b h.own) (hFG b h.own)).trans h.block
    names := h.names.kept hw (hFG nm h.ownN)
    last := h.last.kept hw (hFG lm h.ownL)
    files := fun i f hf => by
      obtain ⟨h1, h2⟩ := h.files i f hf
      exact ⟨(hw.block _ (h.lt _ h2) (hFG _ h2)).trans h1, h2⟩
    opn := h.opn.kept hw hFG
    plan := h.plan.kept hw hFG }
theorem below (h : DiskAt w b F φ S nm lm ov pv) (hw : Below w.heap.size w w') : DiskAt w' b F φ S nm lm ov pv := h.kept (G := fun _ => False) (Wr.of_below hw) (fun _ _ h => h)
theorem alloc (h : DiskAt w b F φ S nm lm ov pv) (o : Obj) : DiskAt (w.alloc o) b F φ S nm lm ov pv := h.below ((Below.refl _ _).alloc (Nat.le_refl _) _)
theorem store (h : DiskAt w b F φ S nm lm ov pv) {p : Addr} (hp : ¬ F p.block) (u : Value) : DiskAt (w.setCell p u) b F φ S nm lm ov pv :=
  h.kept (G := fun k => k = p.block) ⟨rfl, rfl, rfl, by simp [World.setCell], fun k hk hf => Below.heap_setCell _ _ _ _ hf⟩ (fun k hk e => hp (e ▸ hk))
theorem disk (h : DiskAt w b F φ S nm lm ov pv) : Disk w b F φ S := ⟨nm, lm, ov, pv, h⟩
theorem cells (h : DiskAt w b F φ S nm lm ov pv) : w.cell? ⟨b, 0, none⟩ = some (.map (some nm)) ∧ w.cell? ⟨b, 1, none⟩ = some (.map (some lm)) ∧ w.cell? ⟨b, 2, none⟩ = some ov ∧ w.cell? ⟨b, 3, none⟩ = some (.int .i64 S.steps) ∧
    w.cell? ⟨b, 4, none⟩ = some pv ∧ w.cell? ⟨b, 5, none⟩ = some (.bool S.down) := by
  have hb := h.block
  refine ⟨?_, ?_, ?_, ?_, ?_, ?_⟩ <;> simp [World.cell?, hb]
theorem free (h : DiskAt w b F φ S nm lm ov pv) (i : Nat) : w.frozen? ⟨b, i, none⟩ = false := by
  have hb := h.block
  simp only [World.frozen?, hb]
  simp
/-- A block of the disk's own type is no other one. -/
theorem notb (h : DiskAt w b F φ S nm lm ov pv) {k : Nat} {cur : Array Value} {e : TypeId} {fz : Nat × Nat} (he : e ≠ 69) (hk : w.heap[k]? = some (.cells cur e fz)) : k ≠ b := by
  rintro rfl
  rw [h.block] at hk
  simp only [Option.some.injEq, Obj.cells.injEq] at hk
  exact he hk.2.1.symm
/-- Its own block alone is written: the maps, rows and files stay. -/
theorem upd (h : DiskAt w b F φ S nm lm ov pv) (h1 : S'.names = S.names) (h2 : S'.last = S.last) (h3 : S'.files = S.files) (h4 : S'.opn = S.opn) (h5 : S'.plan = S.plan)
    (hb : w'.heap[b]? = some (.cells #[.map (some nm), .map (some lm), ov, .int .i64 S'.steps, pv, .bool S'.down] 69 (0, 0))) (ho : ∀ k, k ≠ b → w'.heap[k]? = w.heap[k]?) (hs : w'.heap.size = w.heap.size) : DiskAt w' b F φ S' nm lm ov pv where
  lt := fun k hk => by rw [hs]; exact h.lt k hk
  own := h.own
  ownN := h.ownN
  ownL := h.ownL
  ne := h.ne
  block := hb
  names := by rw [h1]; exact h.names.same (ho nm fun e => h.names.notCells h.block e.symm)
  last := by rw [h2]; exact h.last.same (ho lm fun e => h.last.notCells h.block e.symm)
  files := fun i f hf => by
    rw [h3] at hf
    obtain ⟨f1, f2⟩ := h.files i f hf
    exact ⟨(ho _ (h.notb (by decide) f1)).trans f1, f2⟩
  inj := by rw [h3]; exact h.inj
  opn := by rw [h4]; exact h.opn.kept_by fun k cur hk => ho k (h.notb (by decide) hk)
  plan := by rw [h5]; exact h.plan.same (by rw [hs]; exact Nat.le_refl _) fun k cur fz _ hk => ho k (h.notb (by decide) hk)
/-- A file's cell is written. -/
theorem updF (h : DiskAt w b F φ S nm lm ov pv) {i : Nat} {f : Fl} (hf : S.files[i]? = some f) (g : Fl → Fl)
    (hb : w'.heap[φ i]? = some (.cells #[strV (g f).text, .int .i64 (g f).sync] 79 (0, 0))) (ho : ∀ k, k ≠ φ i → w'.heap[k]? = w.heap[k]?) (hs : w'.heap.size = w.heap.size) : DiskAt w' b F φ (S.setF i g) nm lm ov pv where
  lt := fun k hk => by rw [hs]; exact h.lt k hk
  own := h.own
  ownN := h.ownN
  ownL := h.ownL
  ne := h.ne
  block := (ho b (fun e => h.notb (by decide) (h.files i f hf).1 e.symm)).trans h.block
  names := h.names.same (ho nm fun e => h.names.notCells (h.files i f hf).1 e.symm)
  last := h.last.same (ho lm fun e => h.last.notCells (h.files i f hf).1 e.symm)
  files := fun j f' hf' => by
    have hi := (List.getElem?_eq_some_iff.1 hf).1
    simp only [Dk.setF, List.getElem?_modify] at hf'
    by_cases e : i = j
    · subst e
      rw [hf] at hf'
      simp at hf'
      subst hf'
      exact ⟨hb, (h.files i f hf).2⟩
    · simp [e] at hf'
      obtain ⟨f1, f2⟩ := h.files j f' hf'
      exact ⟨(ho _ fun e2 => e (h.inj _ _ hi (List.getElem?_eq_some_iff.1 hf').1 e2.symm)).trans f1, f2⟩
  inj := by intro i' j' h1 h2; simp only [Dk.setF, List.length_modify] at h1 h2; exact h.inj i' j' h1 h2
  opn := h.opn.kept_by fun k cur hk => ho k fun e => by
    rw [e, (h.files i f hf).1] at hk
    simp only [Option.some.injEq, Obj.cells.injEq] at hk
    exact absurd hk.2.1 (by decide)
  plan := h.plan.same (by rw [hs]; exact Nat.le_refl _) fun k cur fz _ hk => ho k fun e => by
    rw [e, (h.files i f hf).1] at hk
    simp only [Option.some.injEq, Obj.cells.injEq] at hk
    exact absurd hk.2.1 (by decide)
end DiskAt
theorem Disk.kept {w w' : World} {b : Nat} {F G : Nat → Prop} {φ : Nat → Nat} {S : Dk} (h : Disk w b F φ S) (hw : Wr G w w') (hFG : ∀ k, F k → ¬ G k) : Disk w' b F φ S := by
  obtain ⟨nm, lm, ov, pv, h⟩ := h; exact ⟨nm, lm, ov, pv, h.kept hw hFG⟩
theorem Disk.below {w w' : World} {b : Nat} {F : Nat → Prop} {φ : Nat → Nat} {S : Dk} (h : Disk w b F φ S) (hw : Below w.heap.size w w') : Disk w' b F φ S := by
  obtain ⟨nm, lm, ov, pv, h⟩ := h; exact ⟨nm, lm, ov, pv, h.below hw⟩
theorem Disk.lt {w : World} {b : Nat} {F : Nat → Prop} {φ : Nat → Nat} {S : Dk} (h : Disk w b F φ S) : ∀ k, F k → k < w.heap.size := by obtain ⟨nm, lm, ov, pv, h⟩ := h; exact h.lt
theorem Disk.own {w : World} {b : Nat} {F : Nat → Prop} {φ : Nat → Nat} {S : Dk} (h : Disk w b F φ S) : F b := by obtain ⟨nm, lm, ov, pv, h⟩ := h; exact h.own
end Go.Proofs.Ytbjlffhnkcbnmaa
