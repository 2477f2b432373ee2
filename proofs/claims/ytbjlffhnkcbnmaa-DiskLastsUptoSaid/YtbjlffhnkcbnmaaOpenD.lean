/- A deed among the arguments: its shape. -/
import Derived.Test.YtbjlffhnkcbnmaaDiskNoneW
namespace Go.Proofs.Ytbjlffhnkcbnmaa
open Go.ChangeShapes Go.WideShapes Go.ChangeAt Go.RowKit Go.Deep
set_option linter.unusedVariables false

section
variable {H : Type} {enc : TypeId × Value → H} {W : World} {sp : Nat → Bool}
set_option maxRecDepth 100000 in
theorem open_deed {r : Reach} {b0 : Nat} {v : Value} {d : DataW H} {ps : List MemPlace}
    (hval : Value.okWide Try.prog W r b0 42 v) (h : DataW.Trod enc Try.prog W 0 sp true 42 v d ps) :
    ∃ kd n k A B fv bv, v = .agg #[.int .i64 kd, .string A, .string B, .int .i64 n, fv, .int .i64 k, bv] := by
  obtain ⟨cs, rfl, hcs⟩ := okWide_struct Try.underlying42 hval
  rw [show Try.prog.cellsOf 42 = 7 by kernel_rfl] at hcs
  obtain ⟨fuel, hf⟩ := h
  obtain ⟨xs, m, _, e, hl, hlen, hat⟩ := DataW.trod_struct Try.underlying42 hf
  obtain ⟨cl⟩ := cs
  match cl, hcs with
  | [c0, c1, c2, c3, c4, c5, c6], _ =>
  match xs, hlen with
  | [y0, y1, y2, y3, y4, y5], _ =>
  have f0 : DataW.trod enc Try.prog W 0 sp true m 3 [c0] = some y0 := hat 0 _ rfl
  have f1 : DataW.trod enc Try.prog W 0 sp true m 9 [c1] = some y1 := hat 1 _ rfl
  have f2 : DataW.trod enc Try.prog W 0 sp true m 9 [c2] = some y2 := hat 2 _ rfl
  have f3 : DataW.trod enc Try.prog W 0 sp true m 3 [c3] = some y3 := hat 3 _ rfl
  have f5 : DataW.trod enc Try.prog W 0 sp true m 24 [c5, c6] = some y5 := hat 5 _ rfl
  obtain ⟨k0, e0, -, -⟩ := DataW.trod_int Try.underlying3 f0
  obtain ⟨A, e1, -, -⟩ := DataW.trod_string Try.underlying9 f1
  obtain ⟨B, e2, -, -⟩ := DataW.trod_string Try.underlying9 f2
  obtain ⟨k3, e3, -, -⟩ := DataW.trod_int Try.underlying3 f3
  obtain ⟨z0, z1, m2, -, -, g0, g1⟩ := trod_struct2 Try.underlying24 f5
  have g0' : DataW.trod enc Try.prog W 0 sp true m2 3 [c5] = some z0 := g0
  obtain ⟨k5, e5, -, -⟩ := DataW.trod_int Try.underlying3 g0'
  simp only [List.cons.injEq, and_true] at e0 e1 e2 e3 e5
  subst e0 e1 e2 e3 e5
  exact ⟨k0, k3, k5, A, B, c4, c6, rfl⟩
end
theorem diskNone_walk (v : Value) (w : World) (h : ∃ kd n k A B fv bv, v = .agg #[.int .i64 kd, .string A, .string B, .int .i64 n, fv, .int .i64 k, bv]) : Calls Try.prog 7 #[v] w fun e w' => e = .returned (.bool true) ∧ Below w.heap.size w w' := by
  obtain ⟨kd, n, k, A, B, fv, bv, rfl⟩ := h
  exact diskNone_walk0 kd n k A B fv bv w
end Go.Proofs.Ytbjlffhnkcbnmaa
