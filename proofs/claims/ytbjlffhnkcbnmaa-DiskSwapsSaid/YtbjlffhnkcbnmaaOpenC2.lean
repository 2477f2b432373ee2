/- A crash among the arguments (wide: texts of any length). -/
import Derived.Test.YtbjlffhnkcbnmaaDsk14
import Derived.Test.YtbjlffhnkcbnmaaStrs
import Derived.ChangeSlices
import Derived.ChangeArms
import Derived.ChangeSame
import Derived.ChangeOld
import Derived.Deep.Strs
namespace Go.Proofs.Ytbjlffhnkcbnmaa
open Go.ChangeShapes Go.WideShapes Go.ChangeAt Go.RowKit Go.Deep
set_option linter.unusedVariables false

section
variable {H : Type} {enc : TypeId × Value → H} {W : World} {sp : Nat → Bool}
theorem bulk_pos (d : DataW H) : 1 ≤ Rows.uptoBulk d := by
  cases d with
  | lit x => cases x <;> simp [Rows.uptoBulk]
  | nil => simp [Rows.uptoBulk]
  | ptr d => simp [Rows.uptoBulk]
  | slice a b => simp [Rows.uptoBulk]
  | agg a => simp [Rows.uptoBulk]
  | iface a b => simp [Rows.uptoBulk]
  | map a => simp [Rows.uptoBulk]
  | held a => simp [Rows.uptoBulk]
theorem bulk_len : ∀ l : List (DataW H), l.length ≤ Rows.uptoBulkAll l
  | [] => by simp
  | d :: l => by
    have h1 := bulk_pos d
    have h2 := bulk_len l
    simp only [Rows.uptoBulkAll, List.length_cons]
    omega
theorem bulk_of {l : List (DataW H)} {d : DataW H} (h : d ∈ l) : Rows.uptoBulk d ≤ Rows.uptoBulkAll l := by
  induction l with
  | nil => cases h
  | cons e l ih =>
    simp only [Rows.uptoBulkAll]
    rcases List.mem_cons.1 h with rfl | h
    · omega
    · have := ih h; omega
theorem irow_trod {P : Program} {t e : TypeId} {fuel : Nat} {cs : List Value} {d : DataW H} {ps : List MemPlace} (ht : P.underlying t = some (.slice e)) (he : P.underlying e = some (.int .i64)) (hc : P.cellsOf e = 1)
    (hf : DataW.trod enc P W 0 sp true fuel t cs = some (d, ps)) (hlt : ∀ x ∈ ps, x.block < W.heap.size) :
    ∃ v zs, cs = [v] ∧ IRow W (fun g => g < W.heap.size) v zs ∧ ((d.weights P t).all (· ≤ reachBytes) = true → zs.length * P.bytesOf e ≤ reachBytes) := by
  rcases open_ints ht he hc hf with ⟨rfl, hx⟩ | ⟨a, len, cap, zs, rfl, _, hl, hm, hz, hx, hcell, _⟩
  · simp only [Prod.mk.injEq] at hx
    obtain ⟨rfl, rfl⟩ := hx
    exact ⟨_, [], rfl, ⟨none, 0, rfl, .inl rfl⟩, by simp⟩
  · simp only [Prod.mk.injEq] at hx
    obtain ⟨rfl, rfl⟩ := hx
    have hlm : len ≤ zs.length := by rw [hz]; split <;> omega
    have htl : (zs.take len).length = len := by rw [List.length_take]; omega
    refine ⟨_, zs.take len, rfl, ⟨some a, cap, by rw [htl], ?_⟩, ?_⟩
    rotate_left
    · intro hw
      have h1 := List.all_eq_true.1 hw ((len + (zs.length - len)) * P.bytesOf e) (by simp [DataW.weights, ht, lits, Nat.min_eq_left hlm])
      have h2 : (len + (zs.length - len)) * P.bytesOf e ≤ reachBytes := by simpa using h1
      rw [htl]
      exact Nat.le_trans (Nat.mul_le_mul_right _ (by omega)) h2
    by_cases h0 : len = 0
    · left; rw [h0]; rfl
    · right
      obtain ⟨g, off, spot⟩ := a
      have hspot : spot = none := by simpa [Addr.add] using World.cell?_spot (hcell 0 (by omega))
      subst hspot
      have hg := hlt (MemPlace.cell g off) (MemPlace.mem_row.2 ⟨0, by omega, rfl⟩)
      refine ⟨g, off, rfl, hg, hg, fun j x hx => ?_⟩
      have hj : j < len := by have := (List.getElem?_eq_some_iff.1 hx).1; omega
      rw [← add_plain, hcell j (by omega)]
      rw [List.getElem?_take, if_pos hj] at hx
      rw [List.getD_eq_getElem?_getD, hx]; rfl
set_option maxRecDepth 100000 in
theorem open_crash {r : Reach} {b0 : Nat} {v : Value} {d : DataW H} {ps : List MemPlace}
    (hval : Value.okWide Try.prog W r b0 24 v) (h : DataW.Trod enc Try.prog W 0 sp true 24 v d ps) (hlt : ∀ x ∈ ps, x.block < W.heap.size) :
    ∃ k z zs, v = .agg #[.int .i64 k, z] ∧ IRow W (fun g => g < W.heap.size) z zs ∧ ((d.weights Try.prog 24).all (· ≤ reachBytes) = true → zs.length * 8 ≤ reachBytes) := by
  obtain ⟨cs, rfl, hcs⟩ := okWide_struct Try.underlying24 hval
  rw [show Try.prog.cellsOf 24 = 2 by kernel_rfl] at hcs
  obtain ⟨fuel, hf⟩ := h
  obtain ⟨y0, y1, m, e, hl2, f0, f1⟩ := trod_struct2 Try.underlying24 hf
  obtain ⟨cl⟩ := cs
  match cl, hcs with
  | [c0, c1], _ =>
  have f0' : DataW.trod enc Try.prog W 0 sp true m 3 [c0] = some y0 := f0
  have f1' : DataW.trod enc Try.prog W 0 sp true m 22 [c1] = some y1 := f1
  obtain ⟨k, e0, rfl, wk⟩ := DataW.trod_int Try.underlying3 f0'
  obtain rfl : c0 = .int .i64 k := by simpa using e0
  simp only [Prod.mk.injEq] at e
  obtain ⟨rfl, rfl⟩ := e
  obtain ⟨z, zs, e1, h1, h2⟩ := irow_trod Try.underlying22 Try.underlying3 (by kernel_rfl) f1' (fun x hx => hlt x (List.mem_append.2 (.inr hx)))
  obtain rfl : c1 = z := by simpa using e1
  refine ⟨k, c1, zs, rfl, h1, fun hw => ?_⟩
  have h3 := h2 (List.all_eq_true.2 fun n hn => List.all_eq_true.1 hw n (by simp only [DataW.weights, Try.underlying24]; simpa [DataW.weightsEach, DataW.weights] using hn))
  rwa [show Try.prog.bytesOf 3 = 8 by kernel_rfl] at h3
end

set_option maxRecDepth 100000 in
theorem diskSwaps_walk (o : ByteArray) (f : ByteArray) (ho : o.size ≤ 140737488355328) (hf : f.size ≤ 140737488355328) (k : Int) (v : Value) (bs : List Int) (hbl : bs.length ≤ 17592186044416) (w : World) (hv : IRow w (fun g => g < w.heap.size) v bs) :
    Calls Try.prog 3 #[.string o, .string f, .agg #[.int .i64 k, v]] w fun e w' => e = .returned (.bool true) ∧ Below w.heap.size w w' := by
  obtain ⟨va, vc, rfl⟩ := hv.shape
  obtain ⟨o', rfl⟩ : ∃ o', o = str o' := ⟨o.data.toList, by simp [str]⟩
  obtain ⟨f', rfl⟩ : ∃ f', f = str f' := ⟨f.data.toList, by simp [str]⟩
  have hos := str_size o'
  have hfs := str_size f'
  obtain ⟨W0, hW0⟩ : ∃ W0, W0 = w.alloc (.cells #[.int .i64 k, .slice va bs.length vc] 24) := ⟨_, rfl⟩
  have hv0 : IRow W0 (fun g => g < W0.heap.size) (.slice va bs.length vc) bs := by rw [hW0]; exact irow_mono (IRow.kept hv ((Wr.refl (fun _ => False) w).alloc _) (fun _ _ h => h)) (fun g hg => by simp; omega)
  have hw0 : W0.heap[w.heap.size]? = some (.cells #[.int .i64 k, .slice va bs.length vc] 24 (0, 0)) := by rw [hW0]; exact heap_alloc_new w _
  have HB := Lib.hid (show Below w.heap.size w W0 ∧ W0.heap.size = w.heap.size + 1 from by rw [hW0]; exact ⟨(Below.refl _ _).alloc (Nat.le_refl _) _, by simp⟩)
  have HV := Lib.hid hv0
  have HW := Lib.hid hw0
  have p0 : W0.cell? ⟨w.heap.size, 0, none⟩ = some (.int .i64 k) := by simp [World.cell?, hw0]
  have p1 : W0.cell? ⟨w.heap.size, 1, none⟩ = some (.slice va bs.length vc) := by simp [World.cell?, hw0]
  have H1 := Lib.hid (swaps_any o' f' (by omega) (by omega) k (.slice va bs.length vc) bs hbl false W0 hv0)
  clear hv0 hw0 hv
  go_enter Try.func3, Try.ntmps3
  go_wp2_with fail
  rw [← hW0]
  clear hW0
  go_wp2_with fail
  ((with_reducible refine H1.out.mono ?_); rintro e w1 ⟨rfl, b1⟩)
  have hb1 : w1.heap[w.heap.size]? = some (.cells #[.int .i64 k, .slice va bs.length vc] 24 (0, 0)) := (b1.block _ (by rw [HB.out.2]; omega)).trans HW.out
  have q0 : w1.cell? ⟨w.heap.size, 0, none⟩ = some (.int .i64 k) := by simp [World.cell?, hb1]
  have q1 : w1.cell? ⟨w.heap.size, 1, none⟩ = some (.slice va bs.length vc) := by simp [World.cell?, hb1]
  have H2 := Lib.hid (swaps_any o' f' (by omega) (by omega) k (.slice va bs.length vc) bs hbl true w1 (irow_mono (IRow.kept HV.out (Wr.of_below (F := fun _ => False) b1) (fun _ _ h => h)) (fun g hg => by have := b1.size; omega)))
  have B1 := Lib.hid b1
  clear b1 hb1
  go_wp2_with fail
  ((with_reducible refine H2.out.mono ?_); rintro e w2 ⟨rfl, b2⟩)
  go_wp2
  go_ret
  exact ⟨rfl, HB.out.1.trans ((B1.out.trans (b2.mono B1.out.size)).mono HB.out.1.size)⟩
end Go.Proofs.Ytbjlffhnkcbnmaa
