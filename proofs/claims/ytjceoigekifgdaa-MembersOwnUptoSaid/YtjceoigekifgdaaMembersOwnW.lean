/- The walk of MembersOwn. -/
import Derived.Test.YtjceoigekifgdaaMem15
import Derived.Test.YtjceoigekifgdaaMembersAftersW
import Derived.Deep.CutRange
import Derived.Deep.Cut
namespace Go.Proofs.Ytjceoigekifgdaa
open Go.ChangeShapes Go.WideShapes Go.ChangeAt Go.RowKit Go.Sort
set_option linter.unusedVariables false

--SHARES
theorem share0 {F G : (Option Addr) → Nat → (List Tx) → World → Prop} {R : Prop} (main : (∀ a0 a1 a2 a3, F a0 a1 a2 a3 → G a0 a1 a2 a3) → R) (side : ∀ a0 a1 a2 a3, F a0 a1 a2 a3 → G a0 a1 a2 a3) : R := main side
theorem share1 {F G : Nat → (Option Addr) → Nat → (List Tx) → (Option Addr) → Nat → (List Tx) → World → Prop} {R : Prop} (main : (∀ a0 a1 a2 a3 a4 a5 a6 a7, F a0 a1 a2 a3 a4 a5 a6 a7 → G a0 a1 a2 a3 a4 a5 a6 a7) → R) (side : ∀ a0 a1 a2 a3 a4 a5 a6 a7, F a0 a1 a2 a3 a4 a5 a6 a7 → G a0 a1 a2 a3 a4 a5 a6 a7) : R := main side
theorem share2 {F G : Nat → (Option Addr) → Nat → (List Tx) → World → Prop} {R : Prop} (main : (∀ a0 a1 a2 a3 a4, F a0 a1 a2 a3 a4 → G a0 a1 a2 a3 a4) → R) (side : ∀ a0 a1 a2 a3 a4, F a0 a1 a2 a3 a4 → G a0 a1 a2 a3 a4) : R := main side
theorem share3 {F G : Nat → Nat → (Option Addr) → Nat → (List Tx) → (Option Addr) → Nat → (List Tx) → (Option Addr) → Nat → (List Tx) → World → Prop} {R : Prop} (main : (∀ a0 a1 a2 a3 a4 a5 a6 a7 a8 a9 a10 a11, F a0 a1 a2 a3 a4 a5 a6 a7 a8 a9 a10 a11 → G a0 a1 a2 a3 a4 a5 a6 a7 a8 a9 a10 a11) → R) (side : ∀ a0 a1 a2 a3 a4 a5 a6 a7 a8 a9 a10 a11, F a0 a1 a2 a3 a4 a5 a6 a7 a8 a9 a10 a11 → G a0 a1 a2 a3 a4 a5 a6 a7 a8 a9 a10 a11) : R := main side
theorem share4 {F G : Nat → Nat → (Option Addr) → Nat → (List Tx) → (Option Addr) → Nat → (List Tx) → World → Prop} {R : Prop} (main : (∀ a0 a1 a2 a3 a4 a5 a6 a7 a8, F a0 a1 a2 a3 a4 a5 a6 a7 a8 → G a0 a1 a2 a3 a4 a5 a6 a7 a8) → R) (side : ∀ a0 a1 a2 a3 a4 a5 a6 a7 a8, F a0 a1 a2 a3 a4 a5 a6 a7 a8 → G a0 a1 a2 a3 a4 a5 a6 a7 a8) : R := main side
theorem share5 {F G : Nat → Nat → (Option Addr) → Nat → (List Tx) → World → Prop} {R : Prop} (main : (∀ a0 a1 a2 a3 a4 a5, F a0 a1 a2 a3 a4 a5 → G a0 a1 a2 a3 a4 a5) → R) (side : ∀ a0 a1 a2 a3 a4 a5, F a0 a1 a2 a3 a4 a5 → G a0 a1 a2 a3 a4 a5) : R := main side
theorem share6 {F G : Nat → Nat → Nat → (Option Addr) → Nat → (List Tx) → (Option Addr) → Nat → (List Tx) → (Option Addr) → Nat → (List Tx) → (Option Addr) → Nat → (List Tx) → (Option Addr) → Nat → (List Tx) → (Option Addr) → Nat → (List Tx) → (Option Addr) → Nat → (List Tx) → World → Prop} {R : Prop} (main : (∀ a0 a1 a2 a3 a4 a5 a6 a7 a8 a9 a10 a11 a12 a13 a14 a15 a16 a17 a18 a19 a20 a21 a22 a23 a24, F a0 a1 a2 a3 a4 a5 a6 a7 a8 a9 a10 a11 a12 a13 a14 a15 a16 a17 a18 a19 a20 a21 a22 a23 a24 → G a0 a1 a2 a3 a4 a5 a6 a7 a8 a9 a10 a11 a12 a13 a14 a15 a16 a17 a18 a19 a20 a21 a22 a23 a24) → R) (side : ∀ a0 a1 a2 a3 a4 a5 a6 a7 a8 a9 a10 a11 a12 a13 a14 a15 a16 a17 a18 a19 a20 a21 a22 a23 a24, F a0 a1 a2 a3 a4 a5 a6 a7 a8 a9 a10 a11 a12 a13 a14 a15 a16 a17 a18 a19 a20 a21 a22 a23 a24 → G a0 a1 a2 a3 a4 a5 a6 a7 a8 a9 a10 a11 a12 a13 a14 a15 a16 a17 a18 a19 a20 a21 a22 a23 a24) : R := main side
theorem share7 {F G : Nat → Nat → Nat → (Option Addr) → Nat → (List Tx) → (Option Addr) → Nat → (List Tx) → (Option Addr) → Nat → (List Tx) → (Option Addr) → Nat → (List Tx) → (Option Addr) → Nat → (List Tx) → (Option Addr) → Nat → (List Tx) → World → Prop} {R : Prop} (main : (∀ a0 a1 a2 a3 a4 a5 a6 a7 a8 a9 a10 a11 a12 a13 a14 a15 a16 a17 a18 a19 a20 a21, F a0 a1 a2 a3 a4 a5 a6 a7 a8 a9 a10 a11 a12 a13 a14 a15 a16 a17 a18 a19 a20 a21 → G a0 a1 a2 a3 a4 a5 a6 a7 a8 a9 a10 a11 a12 a13 a14 a15 a16 a17 a18 a19 a20 a21) → R) (side : ∀ a0 a1 a2 a3 a4 a5 a6 a7 a8 a9 a10 a11 a12 a13 a14 a15 a16 a17 a18 a19 a20 a21, F a0 a1 a2 a3 a4 a5 a6 a7 a8 a9 a10 a11 a12 a13 a14 a15 a16 a17 a18 a19 a20 a21 → G a0 a1 a2 a3 a4 a5 a6 a7 a8 a9 a10 a11 a12 a13 a14 a15 a16 a17 a18 a19 a20 a21) : R := main side
theorem share8 {F G : Nat → Nat → Nat → (Option Addr) → Nat → (List Tx) → (Option Addr) → Nat → (List Tx) → (Option Addr) → Nat → (List Tx) → (Option Addr) → Nat → (List Tx) → (Option Addr) → Nat → (List Tx) → World → Prop} {R : Prop} (main : (∀ a0 a1 a2 a3 a4 a5 a6 a7 a8 a9 a10 a11 a12 a13 a14 a15 a16 a17 a18, F a0 a1 a2 a3 a4 a5 a6 a7 a8 a9 a10 a11 a12 a13 a14 a15 a16 a17 a18 → G a0 a1 a2 a3 a4 a5 a6 a7 a8 a9 a10 a11 a12 a13 a14 a15 a16 a17 a18) → R) (side : ∀ a0 a1 a2 a3 a4 a5 a6 a7 a8 a9 a10 a11 a12 a13 a14 a15 a16 a17 a18, F a0 a1 a2 a3 a4 a5 a6 a7 a8 a9 a10 a11 a12 a13 a14 a15 a16 a17 a18 → G a0 a1 a2 a3 a4 a5 a6 a7 a8 a9 a10 a11 a12 a13 a14 a15 a16 a17 a18) : R := main side
theorem share9 {F G : Nat → Nat → Nat → (Option Addr) → Nat → (List Tx) → (Option Addr) → Nat → (List Tx) → (Option Addr) → Nat → (List Tx) → (Option Addr) → Nat → (List Tx) → World → Prop} {R : Prop} (main : (∀ a0 a1 a2 a3 a4 a5 a6 a7 a8 a9 a10 a11 a12 a13 a14 a15, F a0 a1 a2 a3 a4 a5 a6 a7 a8 a9 a10 a11 a12 a13 a14 a15 → G a0 a1 a2 a3 a4 a5 a6 a7 a8 a9 a10 a11 a12 a13 a14 a15) → R) (side : ∀ a0 a1 a2 a3 a4 a5 a6 a7 a8 a9 a10 a11 a12 a13 a14 a15, F a0 a1 a2 a3 a4 a5 a6 a7 a8 a9 a10 a11 a12 a13 a14 a15 → G a0 a1 a2 a3 a4 a5 a6 a7 a8 a9 a10 a11 a12 a13 a14 a15) : R := main side
theorem share10 {F G : Nat → Nat → Nat → (Option Addr) → Nat → (List Tx) → (Option Addr) → Nat → (List Tx) → (Option Addr) → Nat → (List Tx) → World → Prop} {R : Prop} (main : (∀ a0 a1 a2 a3 a4 a5 a6 a7 a8 a9 a10 a11 a12, F a0 a1 a2 a3 a4 a5 a6 a7 a8 a9 a10 a11 a12 → G a0 a1 a2 a3 a4 a5 a6 a7 a8 a9 a10 a11 a12) → R) (side : ∀ a0 a1 a2 a3 a4 a5 a6 a7 a8 a9 a10 a11 a12, F a0 a1 a2 a3 a4 a5 a6 a7 a8 a9 a10 a11 a12 → G a0 a1 a2 a3 a4 a5 a6 a7 a8 a9 a10 a11 a12) : R := main side
theorem share11 {F G : Nat → Nat → Nat → (Option Addr) → Nat → (List Tx) → (Option Addr) → Nat → (List Tx) → World → Prop} {R : Prop} (main : (∀ a0 a1 a2 a3 a4 a5 a6 a7 a8 a9, F a0 a1 a2 a3 a4 a5 a6 a7 a8 a9 → G a0 a1 a2 a3 a4 a5 a6 a7 a8 a9) → R) (side : ∀ a0 a1 a2 a3 a4 a5 a6 a7 a8 a9, F a0 a1 a2 a3 a4 a5 a6 a7 a8 a9 → G a0 a1 a2 a3 a4 a5 a6 a7 a8 a9) : R := main side
theorem share12 {F G : Nat → Nat → Nat → (Option Addr) → Nat → (List Tx) → World → Prop} {R : Prop} (main : (∀ a0 a1 a2 a3 a4 a5 a6, F a0 a1 a2 a3 a4 a5 a6 → G a0 a1 a2 a3 a4 a5 a6) → R) (side : ∀ a0 a1 a2 a3 a4 a5 a6, F a0 a1 a2 a3 a4 a5 a6 → G a0 a1 a2 a3 a4 a5 a6) : R := main side
theorem share13 {F G : Nat → Nat → Nat → World → Prop} {R : Prop} (main : (∀ a0 a1 a2 a3, F a0 a1 a2 a3 → G a0 a1 a2 a3) → R) (side : ∀ a0 a1 a2 a3, F a0 a1 a2 a3 → G a0 a1 a2 a3) : R := main side
theorem share14 {F G : Nat → Nat → World → Prop} {R : Prop} (main : (∀ a0 a1 a2, F a0 a1 a2 → G a0 a1 a2) → R) (side : ∀ a0 a1 a2, F a0 a1 a2 → G a0 a1 a2) : R := main side
theorem share15 {F G : Nat → World → Prop} {R : Prop} (main : (∀ a0 a1, F a0 a1 → G a0 a1) → R) (side : ∀ a0 a1, F a0 a1 → G a0 a1) : R := main side
theorem share16 {F G : World → Prop} {R : Prop} (main : (∀ a0, F a0 → G a0) → R) (side : ∀ a0, F a0 → G a0) : R := main side
--ENDSHARES
set_option maxHeartbeats 64000000 in
set_option maxRecDepth 100000 in
theorem own_up (v1 v2 : Value) (a b : List Tx) (hs : a.length + b.length ≤ 1048576) (w : World) (h1 : TRow w v1 a) (h2 : TRow w v2 b) :
    Calls Try.prog 8 #[v1, v2] w fun e w' => e = .returned (.bool true) ∧ Below w.heap.size w w' := by
  obtain ⟨a1, c1, e1⟩ := h1.shape
  obtain ⟨a2, c2, e2⟩ := h2.shape
  subst e1
  subst e2
  have ha : a.length ≤ 1048576 := by omega
  have hb : b.length ≤ 1048576 := by omega
  have H := Lib.hid (And.intro h1 h2)
  clear h1 h2
  have hrs : Hid (∀ r ∈ [a, b], r.length ≤ 4398046511000) := by
    show ∀ r ∈ [a, b], _
    intro r hr; simp at hr; rcases hr with rfl | rfl <;> omega
  go_enter Try.func8, Try.ntmps8
  go_wp2_with fail
  refine (awake_any _).mono ?_
  rintro e w0 ⟨rfl, b0⟩
  have W0 := Lib.hid b0
  clear b0
  go_wp2_with fail
  refine (twins_any [a, b] _ hrs.out (by simp) _ (laid_two (H.out.1.kept W0.out) (H.out.2.kept W0.out) _ rfl)).mono ?_
  rintro e w1 ⟨tv, rfl, t1, b1⟩
  obtain ⟨g, cp, g0, c0, g1, cc1, rfl, hg, f0, f1, r0, r1⟩ := twins_two t1
  have hbw : Below w.heap.size w w1 := below_thru b1 (below_alloc W0.out _)
  have M1 := Lib.hid (And.intro t1 (And.intro hbw (And.intro r0 r1)))
  clear t1 b1 hbw r0 r1
  obtain ⟨S, hS⟩ : ∃ S : Tx → Prop, S = fun x => x ∈ a ∨ x ∈ b := ⟨_, rfl⟩
  have hSa : Hid (∀ x ∈ a, S x) := fun x hx => by rw [hS]; exact .inl hx
  have hSab : Hid (∀ x, x ∈ a ∨ x ∈ b → S x) := fun x hx => by rw [hS]; exact hx
  have hSc : Hid (∀ x, S x → x ∈ a ∨ x ∈ b) := fun x hx => by rw [hS] at hx; exact hx
  clear hS
  have k0 : ∀ w', Below w1.heap.size w1 w' → w'.cell? ⟨g, 0, none⟩ = some (.slice (some ⟨g0, 0, none⟩) a.length c0) := fun w' hb => (hb.cell (p := ⟨g, 0, none⟩) hg).trans f0
  have R0 : Hid (∀ w', Below w1.heap.size w1 w' → TRow w' (.slice (some ⟨g0, 0, none⟩) a.length c0) a) := fun w' hb => M1.out.2.2.1.kept hb
  have TT : Hid (∀ w', Below w1.heap.size w1 w' → TLRow w' (.slice (some ⟨g, 0, none⟩) 2 cp) [a, b]) := fun w' hb => by
    obtain ⟨xs, hl, hr, hc⟩ := M1.out.1
    obtain ⟨g', cp', e, _, hlt, _, hcell⟩ := hr.full (by rw [hl]; simp)
    rw [hl] at e
    simp only [Value.slice.injEq, Option.some.injEq, Addr.mk.injEq, and_true] at e
    obtain ⟨rfl, _, rfl⟩ := e
    refine ⟨_, _, rfl, .inr ⟨g, 0, rfl, Nat.lt_of_lt_of_le hg hb.size, fun j r hr => ?_⟩⟩
    obtain ⟨t, ht, rfl⟩ : ∃ t, [a, b][j]? = some t ∧ strs t = r := by rw [List.getElem?_map, Option.map_eq_some_iff] at hr; exact hr
    have hj : j < xs.length := by rw [hl]; exact (List.getElem?_eq_some_iff.1 ht).1
    refine ⟨xs[j], ?_, ((hc j _ t (List.getElem?_eq_getElem hj) ht).trow).kept hb⟩
    rw [Nat.zero_add]
    exact (hb.cell (p := ⟨g, j, none⟩) hg).trans (hcell j _ (List.getElem?_eq_getElem hj))
  go_upto_region 4 with fail
  go_cut [6] from 23 to 52 (fun v wx => AllEnd S w1 7 v wx)
  case first =>
    --FIRST
    refine wp_region_held_drew (S := fun w' => Below w1.heap.size w1 w' ∧ w'.cell? ⟨g, 0, none⟩ = some (.slice (some ⟨g0, 0, none⟩) a.length c0)) (by kernel_rfl) ?_ (fun hHeld => ?_)
    · exact ⟨(Below.refl _ _).drew, k0 _ (Below.refl _ _).drew⟩
    refine wpAnyH_take (i := 0) (oi := (Go.Oper.mk (some 23) (Go.Op.move (Go.Operand.tmp 5)) 23 _ #[] none)) (v := ?_) rfl (by kernel_rfl) (by kernel_rfl) (by kernel_rfl) (fun _ _ _ h => h) (Or.inl ⟨by rfl, ?_⟩) hHeld ?_
    rotate_left
    · intro w hSw; (try dsimp only at hSw); go_simp; (try with_reducible rfl)
    simp only [Act.put, List.setIfInBounds_toArray, List.set_cons_zero, List.set_cons_succ]
    refine wpAnyH_take (i := 1) (oi := (Go.Oper.mk (some 24) (Go.Op.indexAddr 23 (Go.Operand.tmp 23) (Go.Operand.const (Go.Value.int Go.IntKind.i64 0))) 0 _ #[Go.Edge.mk 0 Go.Ground.data] none)) (v := ?_) rfl (by kernel_rfl) (by kernel_rfl) (by kernel_rfl) (fun _ _ _ h => h) (Or.inl ⟨by rfl, ?_⟩) hHeld ?_
    rotate_left
    · intro w hSw; (try dsimp only at hSw); go_simp; (try with_reducible rfl)
    simp only [Act.put, List.setIfInBounds_toArray, List.set_cons_zero, List.set_cons_succ]
    refine wpAnyH_take (i := 2) (oi := (Go.Oper.mk (some 25) (Go.Op.load 22 (Go.Operand.tmp 24)) 22 _ #[Go.Edge.mk 1 Go.Ground.data] none)) (v := ?_) rfl (by kernel_rfl) (by kernel_rfl) (by kernel_rfl) (fun _ _ _ h => h) (Or.inl ⟨by rfl, ?_⟩) hHeld ?_
    rotate_left
    · intro w hSw; (try dsimp only at hSw); go_simp; (try with_reducible rfl)
    simp only [Act.put, List.setIfInBounds_toArray, List.set_cons_zero, List.set_cons_succ]
    refine wpAnyH_take (i := 4) (oi := (Go.Oper.mk (some 27) (Go.Op.move (Go.Operand.tmp 5)) 23 _ #[] none)) (v := ?_) rfl (by kernel_rfl) (by kernel_rfl) (by kernel_rfl) (fun _ _ _ h => h) (Or.inl ⟨by rfl, ?_⟩) hHeld ?_
    rotate_left
    · intro w hSw; (try dsimp only at hSw); go_simp; (try with_reducible rfl)
    simp only [Act.put, List.setIfInBounds_toArray, List.set_cons_zero, List.set_cons_succ]
    refine wpAnyH_take (i := 5) (oi := (Go.Oper.mk (some 28) (Go.Op.indexAddr 23 (Go.Operand.tmp 27) (Go.Operand.const (Go.Value.int Go.IntKind.i64 0))) 0 _ #[Go.Edge.mk 4 Go.Ground.data] none)) (v := ?_) rfl (by kernel_rfl) (by kernel_rfl) (by kernel_rfl) (fun _ _ _ h => h) (Or.inl ⟨by rfl, ?_⟩) hHeld ?_
    rotate_left
    · intro w hSw; (try dsimp only at hSw); go_simp; (try with_reducible rfl)
    simp only [Act.put, List.setIfInBounds_toArray, List.set_cons_zero, List.set_cons_succ]
    refine wpAnyH_take (i := 6) (oi := (Go.Oper.mk (some 29) (Go.Op.load 22 (Go.Operand.tmp 28)) 22 _ #[Go.Edge.mk 5 Go.Ground.data] none)) (v := ?_) rfl (by kernel_rfl) (by kernel_rfl) (by kernel_rfl) (fun _ _ _ h => h) (Or.inl ⟨by rfl, ?_⟩) hHeld ?_
    rotate_left
    · intro w hSw; (try dsimp only at hSw); go_simp; (try with_reducible rfl)
    simp only [Act.put, List.setIfInBounds_toArray, List.set_cons_zero, List.set_cons_succ]
    refine wpAnyH_take (i := 9) (oi := (Go.Oper.mk (some 32) (Go.Op.move (Go.Operand.tmp 5)) 23 _ #[] none)) (v := ?_) rfl (by kernel_rfl) (by kernel_rfl) (by kernel_rfl) (fun _ _ _ h => h) (Or.inl ⟨by rfl, ?_⟩) hHeld ?_
    rotate_left
    · intro w hSw; (try dsimp only at hSw); go_simp; (try with_reducible rfl)
    simp only [Act.put, List.setIfInBounds_toArray, List.set_cons_zero, List.set_cons_succ]
    refine wpAnyH_take (i := 10) (oi := (Go.Oper.mk (some 33) (Go.Op.indexAddr 23 (Go.Operand.tmp 32) (Go.Operand.const (Go.Value.int Go.IntKind.i64 0))) 0 _ #[Go.Edge.mk 9 Go.Ground.data] none)) (v := ?_) rfl (by kernel_rfl) (by kernel_rfl) (by kernel_rfl) (fun _ _ _ h => h) (Or.inl ⟨by rfl, ?_⟩) hHeld ?_
    rotate_left
    · intro w hSw; (try dsimp only at hSw); go_simp; (try with_reducible rfl)
    simp only [Act.put, List.setIfInBounds_toArray, List.set_cons_zero, List.set_cons_succ]
    refine wpAnyH_take (i := 11) (oi := (Go.Oper.mk (some 34) (Go.Op.load 22 (Go.Operand.tmp 33)) 22 _ #[Go.Edge.mk 10 Go.Ground.data] none)) (v := ?_) rfl (by kernel_rfl) (by kernel_rfl) (by kernel_rfl) (fun _ _ _ h => h) (Or.inl ⟨by rfl, ?_⟩) hHeld ?_
    rotate_left
    · intro w hSw; (try dsimp only at hSw); go_simp; (try with_reducible rfl)
    simp only [Act.put, List.setIfInBounds_toArray, List.set_cons_zero, List.set_cons_succ]
    refine wpAnyH_take (i := 14) (oi := (Go.Oper.mk (some 37) (Go.Op.move (Go.Operand.tmp 5)) 23 _ #[] none)) (v := ?_) rfl (by kernel_rfl) (by kernel_rfl) (by kernel_rfl) (fun _ _ _ h => h) (Or.inl ⟨by rfl, ?_⟩) hHeld ?_
    rotate_left
    · intro w hSw; (try dsimp only at hSw); go_simp; (try with_reducible rfl)
    simp only [Act.put, List.setIfInBounds_toArray, List.set_cons_zero, List.set_cons_succ]
    refine wpAnyH_take (i := 15) (oi := (Go.Oper.mk (some 38) (Go.Op.indexAddr 23 (Go.Operand.tmp 37) (Go.Operand.const (Go.Value.int Go.IntKind.i64 0))) 0 _ #[Go.Edge.mk 14 Go.Ground.data] none)) (v := ?_) rfl (by kernel_rfl) (by kernel_rfl) (by kernel_rfl) (fun _ _ _ h => h) (Or.inl ⟨by rfl, ?_⟩) hHeld ?_
    rotate_left
    · intro w hSw; (try dsimp only at hSw); go_simp; (try with_reducible rfl)
    simp only [Act.put, List.setIfInBounds_toArray, List.set_cons_zero, List.set_cons_succ]
    refine wpAnyH_take (i := 16) (oi := (Go.Oper.mk (some 39) (Go.Op.load 22 (Go.Operand.tmp 38)) 22 _ #[Go.Edge.mk 15 Go.Ground.data] none)) (v := ?_) rfl (by kernel_rfl) (by kernel_rfl) (by kernel_rfl) (fun _ _ _ h => h) (Or.inl ⟨by rfl, ?_⟩) hHeld ?_
    rotate_left
    · intro w hSw; (try dsimp only at hSw); go_simp; (try with_reducible rfl)
    simp only [Act.put, List.setIfInBounds_toArray, List.set_cons_zero, List.set_cons_succ]
    refine wpAnyH_take (i := 19) (oi := (Go.Oper.mk (some 42) (Go.Op.move (Go.Operand.tmp 5)) 23 _ #[] none)) (v := ?_) rfl (by kernel_rfl) (by kernel_rfl) (by kernel_rfl) (fun _ _ _ h => h) (Or.inl ⟨by rfl, ?_⟩) hHeld ?_
    rotate_left
    · intro w hSw; (try dsimp only at hSw); go_simp; (try with_reducible rfl)
    simp only [Act.put, List.setIfInBounds_toArray, List.set_cons_zero, List.set_cons_succ]
    refine wpAnyH_take (i := 20) (oi := (Go.Oper.mk (some 43) (Go.Op.indexAddr 23 (Go.Operand.tmp 42) (Go.Operand.const (Go.Value.int Go.IntKind.i64 0))) 0 _ #[Go.Edge.mk 19 Go.Ground.data] none)) (v := ?_) rfl (by kernel_rfl) (by kernel_rfl) (by kernel_rfl) (fun _ _ _ h => h) (Or.inl ⟨by rfl, ?_⟩) hHeld ?_
    rotate_left
    · intro w hSw; (try dsimp only at hSw); go_simp; (try with_reducible rfl)
    simp only [Act.put, List.setIfInBounds_toArray, List.set_cons_zero, List.set_cons_succ]
    refine wpAnyH_take (i := 21) (oi := (Go.Oper.mk (some 44) (Go.Op.load 22 (Go.Operand.tmp 43)) 22 _ #[Go.Edge.mk 20 Go.Ground.data] none)) (v := ?_) rfl (by kernel_rfl) (by kernel_rfl) (by kernel_rfl) (fun _ _ _ h => h) (Or.inl ⟨by rfl, ?_⟩) hHeld ?_
    rotate_left
    · intro w hSw; (try dsimp only at hSw); go_simp; (try with_reducible rfl)
    simp only [Act.put, List.setIfInBounds_toArray, List.set_cons_zero, List.set_cons_succ]
    refine wpAnyH_take (i := 23) (oi := (Go.Oper.mk (some 46) (Go.Op.move (Go.Operand.tmp 5)) 23 _ #[] none)) (v := ?_) rfl (by kernel_rfl) (by kernel_rfl) (by kernel_rfl) (fun _ _ _ h => h) (Or.inl ⟨by rfl, ?_⟩) hHeld ?_
    rotate_left
    · intro w hSw; (try dsimp only at hSw); go_simp; (try with_reducible rfl)
    simp only [Act.put, List.setIfInBounds_toArray, List.set_cons_zero, List.set_cons_succ]
    refine wpAnyH_take (i := 25) (oi := (Go.Oper.mk (some 48) (Go.Op.move (Go.Operand.tmp 5)) 23 _ #[] none)) (v := ?_) rfl (by kernel_rfl) (by kernel_rfl) (by kernel_rfl) (fun _ _ _ h => h) (Or.inl ⟨by rfl, ?_⟩) hHeld ?_
    rotate_left
    · intro w hSw; (try dsimp only at hSw); go_simp; (try with_reducible rfl)
    simp only [Act.put, List.setIfInBounds_toArray, List.set_cons_zero, List.set_cons_succ]
    refine wpAnyH_take (i := 26) (oi := (Go.Oper.mk (some 49) (Go.Op.indexAddr 23 (Go.Operand.tmp 48) (Go.Operand.const (Go.Value.int Go.IntKind.i64 0))) 0 _ #[Go.Edge.mk 25 Go.Ground.data] none)) (v := ?_) rfl (by kernel_rfl) (by kernel_rfl) (by kernel_rfl) (fun _ _ _ h => h) (Or.inl ⟨by rfl, ?_⟩) hHeld ?_
    rotate_left
    · intro w hSw; (try dsimp only at hSw); go_simp; (try with_reducible rfl)
    simp only [Act.put, List.setIfInBounds_toArray, List.set_cons_zero, List.set_cons_succ]
    refine wpAnyH_take (i := 27) (oi := (Go.Oper.mk (some 50) (Go.Op.load 22 (Go.Operand.tmp 49)) 22 _ #[Go.Edge.mk 26 Go.Ground.data] none)) (v := ?_) rfl (by kernel_rfl) (by kernel_rfl) (by kernel_rfl) (fun _ _ _ h => h) (Or.inl ⟨by rfl, ?_⟩) hHeld ?_
    rotate_left
    · intro w hSw; (try dsimp only at hSw); go_simp; (try with_reducible rfl)
    simp only [Act.put, List.setIfInBounds_toArray, List.set_cons_zero, List.set_cons_succ]
    obtain ⟨wq, hwq⟩ : ∃ wq, w1.drew = wq := ⟨_, rfl⟩
    have N0 : Nine S w1 wq [] := by rw [← hwq]; exact Nine.nil (Below.refl _ _).drew
    rw [hwq]
    clear hwq hHeld
    apply share6 (F := fun q7 q12 q17 o1 c1 x1 o2 c2 x2 o3 c3 x3 o4 c4 x4 o5 c5 x5 o6 c6 x6 o7 c7 x7 u => Nine S w1 u ([] ++ [(.slice o1 x1.length c1, x1)] ++ [(.slice o2 x2.length c2, x2)] ++ [(.slice o3 x3.length c3, x3)] ++ [(.slice o4 x4.length c4, x4)] ++ [(.slice o5 x5.length c5, x5)] ++ [(.slice o6 x6.length c6, x6)] ++ [(.slice o7 x7.length c7, x7)]))
    intro T7_7
    apply share7 (F := fun q7 q12 q17 o1 c1 x1 o2 c2 x2 o3 c3 x3 o4 c4 x4 o5 c5 x5 o6 c6 x6 u => Nine S w1 u ([] ++ [(.slice o1 x1.length c1, x1)] ++ [(.slice o2 x2.length c2, x2)] ++ [(.slice o3 x3.length c3, x3)] ++ [(.slice o4 x4.length c4, x4)] ++ [(.slice o5 x5.length c5, x5)] ++ [(.slice o6 x6.length c6, x6)]))
    intro T6_7
    apply share8 (F := fun q7 q12 q17 o1 c1 x1 o2 c2 x2 o3 c3 x3 o4 c4 x4 o5 c5 x5 u => Nine S w1 u ([] ++ [(.slice o1 x1.length c1, x1)] ++ [(.slice o2 x2.length c2, x2)] ++ [(.slice o3 x3.length c3, x3)] ++ [(.slice o4 x4.length c4, x4)] ++ [(.slice o5 x5.length c5, x5)]))
    intro T5_7
    apply share9 (F := fun q7 q12 q17 o1 c1 x1 o2 c2 x2 o3 c3 x3 o4 c4 x4 u => Nine S w1 u ([] ++ [(.slice o1 x1.length c1, x1)] ++ [(.slice o2 x2.length c2, x2)] ++ [(.slice o3 x3.length c3, x3)] ++ [(.slice o4 x4.length c4, x4)]))
    intro T4_7
    apply share10 (F := fun q7 q12 q17 o1 c1 x1 o2 c2 x2 o3 c3 x3 u => Nine S w1 u ([] ++ [(.slice o1 x1.length c1, x1)] ++ [(.slice o2 x2.length c2, x2)] ++ [(.slice o3 x3.length c3, x3)]) ∧ u.heap[q17]? = some (.cells #[.slice (some ⟨g0, 0, none⟩) a.length c0] 22 (0, 0)))
    intro T3_7
    apply share3 (F := fun q7 q12 o1 c1 x1 o2 c2 x2 o3 c3 x3 u => Nine S w1 u ([] ++ [(.slice o1 x1.length c1, x1)] ++ [(.slice o2 x2.length c2, x2)] ++ [(.slice o3 x3.length c3, x3)]))
    intro T3_3
    apply share11 (F := fun q7 q12 q17 o1 c1 x1 o2 c2 x2 u => Nine S w1 u ([] ++ [(.slice o1 x1.length c1, x1)] ++ [(.slice o2 x2.length c2, x2)]) ∧ u.heap[q12]? = some (.cells #[.slice (some ⟨g0, 0, none⟩) a.length c0] 22 (0, 0)) ∧ u.heap[q17]? = some (.cells #[.slice (some ⟨g0, 0, none⟩) a.length c0] 22 (0, 0)))
    intro T2_7
    apply share4 (F := fun q7 q17 o1 c1 x1 o2 c2 x2 u => Nine S w1 u ([] ++ [(.slice o1 x1.length c1, x1)] ++ [(.slice o2 x2.length c2, x2)]) ∧ u.heap[q17]? = some (.cells #[.slice (some ⟨g0, 0, none⟩) a.length c0] 22 (0, 0)))
    intro T2_5
    apply share4 (F := fun q7 q12 o1 c1 x1 o2 c2 x2 u => Nine S w1 u ([] ++ [(.slice o1 x1.length c1, x1)] ++ [(.slice o2 x2.length c2, x2)]) ∧ u.heap[q12]? = some (.cells #[.slice (some ⟨g0, 0, none⟩) a.length c0] 22 (0, 0)))
    intro T2_3
    apply share1 (F := fun q7 o1 c1 x1 o2 c2 x2 u => Nine S w1 u ([] ++ [(.slice o1 x1.length c1, x1)] ++ [(.slice o2 x2.length c2, x2)]))
    intro T2_1
    apply share12 (F := fun q7 q12 q17 o1 c1 x1 u => Nine S w1 u ([] ++ [(.slice o1 x1.length c1, x1)]) ∧ u.heap[q7]? = some (.cells #[.slice (some ⟨g0, 0, none⟩) a.length c0] 22 (0, 0)) ∧ u.heap[q12]? = some (.cells #[.slice (some ⟨g0, 0, none⟩) a.length c0] 22 (0, 0)) ∧ u.heap[q17]? = some (.cells #[.slice (some ⟨g0, 0, none⟩) a.length c0] 22 (0, 0)))
    intro T1_7
    apply share5 (F := fun q12 q17 o1 c1 x1 u => Nine S w1 u ([] ++ [(.slice o1 x1.length c1, x1)]) ∧ u.heap[q12]? = some (.cells #[.slice (some ⟨g0, 0, none⟩) a.length c0] 22 (0, 0)) ∧ u.heap[q17]? = some (.cells #[.slice (some ⟨g0, 0, none⟩) a.length c0] 22 (0, 0)))
    intro T1_6
    apply share5 (F := fun q7 q17 o1 c1 x1 u => Nine S w1 u ([] ++ [(.slice o1 x1.length c1, x1)]) ∧ u.heap[q7]? = some (.cells #[.slice (some ⟨g0, 0, none⟩) a.length c0] 22 (0, 0)) ∧ u.heap[q17]? = some (.cells #[.slice (some ⟨g0, 0, none⟩) a.length c0] 22 (0, 0)))
    intro T1_5
    apply share5 (F := fun q7 q12 o1 c1 x1 u => Nine S w1 u ([] ++ [(.slice o1 x1.length c1, x1)]) ∧ u.heap[q7]? = some (.cells #[.slice (some ⟨g0, 0, none⟩) a.length c0] 22 (0, 0)) ∧ u.heap[q12]? = some (.cells #[.slice (some ⟨g0, 0, none⟩) a.length c0] 22 (0, 0)))
    intro T1_3
    apply share2 (F := fun q17 o1 c1 x1 u => Nine S w1 u ([] ++ [(.slice o1 x1.length c1, x1)]) ∧ u.heap[q17]? = some (.cells #[.slice (some ⟨g0, 0, none⟩) a.length c0] 22 (0, 0)))
    intro T1_4
    apply share2 (F := fun q12 o1 c1 x1 u => Nine S w1 u ([] ++ [(.slice o1 x1.length c1, x1)]) ∧ u.heap[q12]? = some (.cells #[.slice (some ⟨g0, 0, none⟩) a.length c0] 22 (0, 0)))
    intro T1_2
    apply share2 (F := fun q7 o1 c1 x1 u => Nine S w1 u ([] ++ [(.slice o1 x1.length c1, x1)]) ∧ u.heap[q7]? = some (.cells #[.slice (some ⟨g0, 0, none⟩) a.length c0] 22 (0, 0)))
    intro T1_1
    apply share0 (F := fun o1 c1 x1 u => Nine S w1 u ([] ++ [(.slice o1 x1.length c1, x1)]))
    intro T1_0
    apply share13 (F := fun q7 q12 q17 u => Nine S w1 u ([]) ∧ u.heap[q7]? = some (.cells #[.slice (some ⟨g0, 0, none⟩) a.length c0] 22 (0, 0)) ∧ u.heap[q12]? = some (.cells #[.slice (some ⟨g0, 0, none⟩) a.length c0] 22 (0, 0)) ∧ u.heap[q17]? = some (.cells #[.slice (some ⟨g0, 0, none⟩) a.length c0] 22 (0, 0)))
    intro T0_7
    apply share14 (F := fun q12 q17 u => Nine S w1 u ([]) ∧ u.heap[q12]? = some (.cells #[.slice (some ⟨g0, 0, none⟩) a.length c0] 22 (0, 0)) ∧ u.heap[q17]? = some (.cells #[.slice (some ⟨g0, 0, none⟩) a.length c0] 22 (0, 0)))
    intro T0_6
    apply share14 (F := fun q7 q17 u => Nine S w1 u ([]) ∧ u.heap[q7]? = some (.cells #[.slice (some ⟨g0, 0, none⟩) a.length c0] 22 (0, 0)) ∧ u.heap[q17]? = some (.cells #[.slice (some ⟨g0, 0, none⟩) a.length c0] 22 (0, 0)))
    intro T0_5
    apply share14 (F := fun q7 q12 u => Nine S w1 u ([]) ∧ u.heap[q7]? = some (.cells #[.slice (some ⟨g0, 0, none⟩) a.length c0] 22 (0, 0)) ∧ u.heap[q12]? = some (.cells #[.slice (some ⟨g0, 0, none⟩) a.length c0] 22 (0, 0)))
    intro T0_3
    apply share15 (F := fun q17 u => Nine S w1 u ([]) ∧ u.heap[q17]? = some (.cells #[.slice (some ⟨g0, 0, none⟩) a.length c0] 22 (0, 0)))
    intro T0_4
    apply share15 (F := fun q12 u => Nine S w1 u ([]) ∧ u.heap[q12]? = some (.cells #[.slice (some ⟨g0, 0, none⟩) a.length c0] 22 (0, 0)))
    intro T0_2
    apply share15 (F := fun q7 u => Nine S w1 u ([]) ∧ u.heap[q7]? = some (.cells #[.slice (some ⟨g0, 0, none⟩) a.length c0] 22 (0, 0)))
    intro T0_1
    apply share16 (F := fun u => Nine S w1 u ([]))
    intro T0_0
    exact T0_0 wq N0
    · -- 0 calls, builds 0
      intro u hF
      have hn := hF
      refine wpAnyH_ready (rs := [3, 7, 12, 17]) (by kernel_rfl) (by simp) ?_
      refine (AllReadyH.cons (o := (Go.Oper.mk (some 26) (Go.Op.call (Go.Call.mk (Go.Callee.value (Go.Operand.func 21)) #[Go.Operand.tmp 25] #[22])) 22 _ #[Go.Edge.mk 2 Go.Ground.data] none)) rfl (fun K hK => ?_) (AllReadyH.cons (o := (Go.Oper.mk (some 30) (Go.Op.buildSlice 23 1 #[(0, Go.Operand.tmp 29)]) 23 _ #[Go.Edge.mk 6 Go.Ground.data] none)) rfl (fun K hK => ?_) (AllReadyH.cons (o := (Go.Oper.mk (some 35) (Go.Op.buildSlice 23 1 #[(0, Go.Operand.tmp 34)]) 23 _ #[Go.Edge.mk 11 Go.Ground.data] none)) rfl (fun K hK => ?_) (AllReadyH.cons (o := (Go.Oper.mk (some 40) (Go.Op.buildSlice 23 1 #[(0, Go.Operand.tmp 39)]) 23 _ #[Go.Edge.mk 16 Go.Ground.data] none)) rfl (fun K hK => ?_) AllReadyH.nil))))
      · go_simp
        refine (own_of hn (Below.refl _ _) hSa.out ha (R0.out _ hn.1)).mono ?_
        rintro e u2 ⟨o1, c1, x1, rfl, hn2, hh⟩
        clear hh hn
        go_wp2_with fail
        refine hK.out _ _ ⟨hn2.1, k0 _ hn2.1⟩ (fun hHeld => ?_)
        clear hK K hHeld
        (try simp only [Act.put, List.setIfInBounds_toArray, List.set_cons_zero, List.set_cons_succ])
        exact T1_0 o1 c1 x1 u2 hn2
      · go_simp
        have ba := below_a1 u (.cells #[.slice (some ⟨g0, 0, none⟩) a.length c0] 22 (0, 0))
        have hn2 := hn.below ba
        have h7 := heap_alloc_new u (.cells #[.slice (some ⟨g0, 0, none⟩) a.length c0] 22 (0, 0))
        refine hK.out _ _ ⟨hn2.1, k0 _ hn2.1⟩ (fun hHeld => ?_)
        clear hK K hHeld ba hn
        (try simp only [Act.put, List.setIfInBounds_toArray, List.set_cons_zero, List.set_cons_succ])
        obtain ⟨q7, hq⟩ : ∃ q, u.heap.size = q := ⟨_, rfl⟩
        rw [hq] at h7 ⊢
        obtain ⟨u2, hu⟩ : ∃ u2, World.alloc u (.cells #[.slice (some ⟨g0, 0, none⟩) a.length c0] 22 (0, 0)) = u2 := ⟨_, rfl⟩
        rw [hu] at h7 hn2 ⊢
        clear hq hu
        exact T0_1 q7 u2 ⟨hn2, h7⟩
      · go_simp
        have ba := below_a1 u (.cells #[.slice (some ⟨g0, 0, none⟩) a.length c0] 22 (0, 0))
        have hn2 := hn.below ba
        have h12 := heap_alloc_new u (.cells #[.slice (some ⟨g0, 0, none⟩) a.length c0] 22 (0, 0))
        refine hK.out _ _ ⟨hn2.1, k0 _ hn2.1⟩ (fun hHeld => ?_)
        clear hK K hHeld ba hn
        (try simp only [Act.put, List.setIfInBounds_toArray, List.set_cons_zero, List.set_cons_succ])
        obtain ⟨q12, hq⟩ : ∃ q, u.heap.size = q := ⟨_, rfl⟩
        rw [hq] at h12 ⊢
        obtain ⟨u2, hu⟩ : ∃ u2, World.alloc u (.cells #[.slice (some ⟨g0, 0, none⟩) a.length c0] 22 (0, 0)) = u2 := ⟨_, rfl⟩
        rw [hu] at h12 hn2 ⊢
        clear hq hu
        exact T0_2 q12 u2 ⟨hn2, h12⟩
      · go_simp
        have ba := below_a1 u (.cells #[.slice (some ⟨g0, 0, none⟩) a.length c0] 22 (0, 0))
        have hn2 := hn.below ba
        have h17 := heap_alloc_new u (.cells #[.slice (some ⟨g0, 0, none⟩) a.length c0] 22 (0, 0))
        refine hK.out _ _ ⟨hn2.1, k0 _ hn2.1⟩ (fun hHeld => ?_)
        clear hK K hHeld ba hn
        (try simp only [Act.put, List.setIfInBounds_toArray, List.set_cons_zero, List.set_cons_succ])
        obtain ⟨q17, hq⟩ : ∃ q, u.heap.size = q := ⟨_, rfl⟩
        rw [hq] at h17 ⊢
        obtain ⟨u2, hu⟩ : ∃ u2, World.alloc u (.cells #[.slice (some ⟨g0, 0, none⟩) a.length c0] 22 (0, 0)) = u2 := ⟨_, rfl⟩
        rw [hu] at h17 hn2 ⊢
        clear hq hu
        exact T0_4 q17 u2 ⟨hn2, h17⟩
    · -- 0 calls, builds 1
      intro q7 u hF
      obtain ⟨hn, h7⟩ := hF
      refine wpAnyH_ready (rs := [3, 12, 17]) (by kernel_rfl) (by simp) ?_
      refine (AllReadyH.cons (o := (Go.Oper.mk (some 26) (Go.Op.call (Go.Call.mk (Go.Callee.value (Go.Operand.func 21)) #[Go.Operand.tmp 25] #[22])) 22 _ #[Go.Edge.mk 2 Go.Ground.data] none)) rfl (fun K hK => ?_) (AllReadyH.cons (o := (Go.Oper.mk (some 35) (Go.Op.buildSlice 23 1 #[(0, Go.Operand.tmp 34)]) 23 _ #[Go.Edge.mk 11 Go.Ground.data] none)) rfl (fun K hK => ?_) (AllReadyH.cons (o := (Go.Oper.mk (some 40) (Go.Op.buildSlice 23 1 #[(0, Go.Operand.tmp 39)]) 23 _ #[Go.Edge.mk 16 Go.Ground.data] none)) rfl (fun K hK => ?_) AllReadyH.nil)))
      · go_simp
        refine (own_of hn (Below.refl _ _) hSa.out ha (R0.out _ hn.1)).mono ?_
        rintro e u2 ⟨o1, c1, x1, rfl, hn2, hh⟩
        have h7 := hh _ _ h7
        clear hh hn
        go_wp2_with fail
        refine hK.out _ _ ⟨hn2.1, k0 _ hn2.1⟩ (fun hHeld => ?_)
        clear hK K hHeld
        (try simp only [Act.put, List.setIfInBounds_toArray, List.set_cons_zero, List.set_cons_succ])
        exact T1_1 q7 o1 c1 x1 u2 ⟨hn2, h7⟩
      · go_simp
        have ba := below_a1 u (.cells #[.slice (some ⟨g0, 0, none⟩) a.length c0] 22 (0, 0))
        have hn2 := hn.below ba
        have h7 := heap_keep h7 ba
        have h12 := heap_alloc_new u (.cells #[.slice (some ⟨g0, 0, none⟩) a.length c0] 22 (0, 0))
        refine hK.out _ _ ⟨hn2.1, k0 _ hn2.1⟩ (fun hHeld => ?_)
        clear hK K hHeld ba hn
        (try simp only [Act.put, List.setIfInBounds_toArray, List.set_cons_zero, List.set_cons_succ])
        obtain ⟨q12, hq⟩ : ∃ q, u.heap.size = q := ⟨_, rfl⟩
        rw [hq] at h12 ⊢
        obtain ⟨u2, hu⟩ : ∃ u2, World.alloc u (.cells #[.slice (some ⟨g0, 0, none⟩) a.length c0] 22 (0, 0)) = u2 := ⟨_, rfl⟩
        rw [hu] at h7 h12 hn2 ⊢
        clear hq hu
        exact T0_3 q7 q12 u2 ⟨hn2, h7, h12⟩
      · go_simp
        have ba := below_a1 u (.cells #[.slice (some ⟨g0, 0, none⟩) a.length c0] 22 (0, 0))
        have hn2 := hn.below ba
        have h7 := heap_keep h7 ba
        have h17 := heap_alloc_new u (.cells #[.slice (some ⟨g0, 0, none⟩) a.length c0] 22 (0, 0))
        refine hK.out _ _ ⟨hn2.1, k0 _ hn2.1⟩ (fun hHeld => ?_)
        clear hK K hHeld ba hn
        (try simp only [Act.put, List.setIfInBounds_toArray, List.set_cons_zero, List.set_cons_succ])
        obtain ⟨q17, hq⟩ : ∃ q, u.heap.size = q := ⟨_, rfl⟩
        rw [hq] at h17 ⊢
        obtain ⟨u2, hu⟩ : ∃ u2, World.alloc u (.cells #[.slice (some ⟨g0, 0, none⟩) a.length c0] 22 (0, 0)) = u2 := ⟨_, rfl⟩
        rw [hu] at h7 h17 hn2 ⊢
        clear hq hu
        exact T0_5 q7 q17 u2 ⟨hn2, h7, h17⟩
    · -- 0 calls, builds 2
      intro q12 u hF
      obtain ⟨hn, h12⟩ := hF
      refine wpAnyH_ready (rs := [3, 7, 17]) (by kernel_rfl) (by simp) ?_
      refine (AllReadyH.cons (o := (Go.Oper.mk (some 26) (Go.Op.call (Go.Call.mk (Go.Callee.value (Go.Operand.func 21)) #[Go.Operand.tmp 25] #[22])) 22 _ #[Go.Edge.mk 2 Go.Ground.data] none)) rfl (fun K hK => ?_) (AllReadyH.cons (o := (Go.Oper.mk (some 30) (Go.Op.buildSlice 23 1 #[(0, Go.Operand.tmp 29)]) 23 _ #[Go.Edge.mk 6 Go.Ground.data] none)) rfl (fun K hK => ?_) (AllReadyH.cons (o := (Go.Oper.mk (some 40) (Go.Op.buildSlice 23 1 #[(0, Go.Operand.tmp 39)]) 23 _ #[Go.Edge.mk 16 Go.Ground.data] none)) rfl (fun K hK => ?_) AllReadyH.nil)))
      · go_simp
        refine (own_of hn (Below.refl _ _) hSa.out ha (R0.out _ hn.1)).mono ?_
        rintro e u2 ⟨o1, c1, x1, rfl, hn2, hh⟩
        have h12 := hh _ _ h12
        clear hh hn
        go_wp2_with fail
        refine hK.out _ _ ⟨hn2.1, k0 _ hn2.1⟩ (fun hHeld => ?_)
        clear hK K hHeld
        (try simp only [Act.put, List.setIfInBounds_toArray, List.set_cons_zero, List.set_cons_succ])
        exact T1_2 q12 o1 c1 x1 u2 ⟨hn2, h12⟩
      · go_simp
        have ba := below_a1 u (.cells #[.slice (some ⟨g0, 0, none⟩) a.length c0] 22 (0, 0))
        have hn2 := hn.below ba
        have h12 := heap_keep h12 ba
        have h7 := heap_alloc_new u (.cells #[.slice (some ⟨g0, 0, none⟩) a.length c0] 22 (0, 0))
        refine hK.out _ _ ⟨hn2.1, k0 _ hn2.1⟩ (fun hHeld => ?_)
        clear hK K hHeld ba hn
        (try simp only [Act.put, List.setIfInBounds_toArray, List.set_cons_zero, List.set_cons_succ])
        obtain ⟨q7, hq⟩ : ∃ q, u.heap.size = q := ⟨_, rfl⟩
        rw [hq] at h7 ⊢
        obtain ⟨u2, hu⟩ : ∃ u2, World.alloc u (.cells #[.slice (some ⟨g0, 0, none⟩) a.length c0] 22 (0, 0)) = u2 := ⟨_, rfl⟩
        rw [hu] at h7 h12 hn2 ⊢
        clear hq hu
        exact T0_3 q7 q12 u2 ⟨hn2, h7, h12⟩
      · go_simp
        have ba := below_a1 u (.cells #[.slice (some ⟨g0, 0, none⟩) a.length c0] 22 (0, 0))
        have hn2 := hn.below ba
        have h12 := heap_keep h12 ba
        have h17 := heap_alloc_new u (.cells #[.slice (some ⟨g0, 0, none⟩) a.length c0] 22 (0, 0))
        refine hK.out _ _ ⟨hn2.1, k0 _ hn2.1⟩ (fun hHeld => ?_)
        clear hK K hHeld ba hn
        (try simp only [Act.put, List.setIfInBounds_toArray, List.set_cons_zero, List.set_cons_succ])
        obtain ⟨q17, hq⟩ : ∃ q, u.heap.size = q := ⟨_, rfl⟩
        rw [hq] at h17 ⊢
        obtain ⟨u2, hu⟩ : ∃ u2, World.alloc u (.cells #[.slice (some ⟨g0, 0, none⟩) a.length c0] 22 (0, 0)) = u2 := ⟨_, rfl⟩
        rw [hu] at h12 h17 hn2 ⊢
        clear hq hu
        exact T0_6 q12 q17 u2 ⟨hn2, h12, h17⟩
    · -- 0 calls, builds 4
      intro q17 u hF
      obtain ⟨hn, h17⟩ := hF
      refine wpAnyH_ready (rs := [3, 7, 12]) (by kernel_rfl) (by simp) ?_
      refine (AllReadyH.cons (o := (Go.Oper.mk (some 26) (Go.Op.call (Go.Call.mk (Go.Callee.value (Go.Operand.func 21)) #[Go.Operand.tmp 25] #[22])) 22 _ #[Go.Edge.mk 2 Go.Ground.data] none)) rfl (fun K hK => ?_) (AllReadyH.cons (o := (Go.Oper.mk (some 30) (Go.Op.buildSlice 23 1 #[(0, Go.Operand.tmp 29)]) 23 _ #[Go.Edge.mk 6 Go.Ground.data] none)) rfl (fun K hK => ?_) (AllReadyH.cons (o := (Go.Oper.mk (some 35) (Go.Op.buildSlice 23 1 #[(0, Go.Operand.tmp 34)]) 23 _ #[Go.Edge.mk 11 Go.Ground.data] none)) rfl (fun K hK => ?_) AllReadyH.nil)))
      · go_simp
        refine (own_of hn (Below.refl _ _) hSa.out ha (R0.out _ hn.1)).mono ?_
        rintro e u2 ⟨o1, c1, x1, rfl, hn2, hh⟩
        have h17 := hh _ _ h17
        clear hh hn
        go_wp2_with fail
        refine hK.out _ _ ⟨hn2.1, k0 _ hn2.1⟩ (fun hHeld => ?_)
        clear hK K hHeld
        (try simp only [Act.put, List.setIfInBounds_toArray, List.set_cons_zero, List.set_cons_succ])
        exact T1_4 q17 o1 c1 x1 u2 ⟨hn2, h17⟩
      · go_simp
        have ba := below_a1 u (.cells #[.slice (some ⟨g0, 0, none⟩) a.length c0] 22 (0, 0))
        have hn2 := hn.below ba
        have h17 := heap_keep h17 ba
        have h7 := heap_alloc_new u (.cells #[.slice (some ⟨g0, 0, none⟩) a.length c0] 22 (0, 0))
        refine hK.out _ _ ⟨hn2.1, k0 _ hn2.1⟩ (fun hHeld => ?_)
        clear hK K hHeld ba hn
        (try simp only [Act.put, List.setIfInBounds_toArray, List.set_cons_zero, List.set_cons_succ])
        obtain ⟨q7, hq⟩ : ∃ q, u.heap.size = q := ⟨_, rfl⟩
        rw [hq] at h7 ⊢
        obtain ⟨u2, hu⟩ : ∃ u2, World.alloc u (.cells #[.slice (some ⟨g0, 0, none⟩) a.length c0] 22 (0, 0)) = u2 := ⟨_, rfl⟩
        rw [hu] at h7 h17 hn2 ⊢
        clear hq hu
        exact T0_5 q7 q17 u2 ⟨hn2, h7, h17⟩
      · go_simp
        have ba := below_a1 u (.cells #[.slice (some ⟨g0, 0, none⟩) a.length c0] 22 (0, 0))
        have hn2 := hn.below ba
        have h17 := heap_keep h17 ba
        have h12 := heap_alloc_new u (.cells #[.slice (some ⟨g0, 0, none⟩) a.length c0] 22 (0, 0))
        refine hK.out _ _ ⟨hn2.1, k0 _ hn2.1⟩ (fun hHeld => ?_)
        clear hK K hHeld ba hn
        (try simp only [Act.put, List.setIfInBounds_toArray, List.set_cons_zero, List.set_cons_succ])
        obtain ⟨q12, hq⟩ : ∃ q, u.heap.size = q := ⟨_, rfl⟩
        rw [hq] at h12 ⊢
        obtain ⟨u2, hu⟩ : ∃ u2, World.alloc u (.cells #[.slice (some ⟨g0, 0, none⟩) a.length c0] 22 (0, 0)) = u2 := ⟨_, rfl⟩
        rw [hu] at h12 h17 hn2 ⊢
        clear hq hu
        exact T0_6 q12 q17 u2 ⟨hn2, h12, h17⟩
    · -- 0 calls, builds 3
      intro q7 q12 u hF
      obtain ⟨hn, h7, h12⟩ := hF
      refine wpAnyH_ready (rs := [3, 17]) (by kernel_rfl) (by simp) ?_
      refine (AllReadyH.cons (o := (Go.Oper.mk (some 26) (Go.Op.call (Go.Call.mk (Go.Callee.value (Go.Operand.func 21)) #[Go.Operand.tmp 25] #[22])) 22 _ #[Go.Edge.mk 2 Go.Ground.data] none)) rfl (fun K hK => ?_) (AllReadyH.cons (o := (Go.Oper.mk (some 40) (Go.Op.buildSlice 23 1 #[(0, Go.Operand.tmp 39)]) 23 _ #[Go.Edge.mk 16 Go.Ground.data] none)) rfl (fun K hK => ?_) AllReadyH.nil))
      · go_simp
        refine (own_of hn (Below.refl _ _) hSa.out ha (R0.out _ hn.1)).mono ?_
        rintro e u2 ⟨o1, c1, x1, rfl, hn2, hh⟩
        have h7 := hh _ _ h7
        have h12 := hh _ _ h12
        clear hh hn
        go_wp2_with fail
        refine hK.out _ _ ⟨hn2.1, k0 _ hn2.1⟩ (fun hHeld => ?_)
        clear hK K hHeld
        (try simp only [Act.put, List.setIfInBounds_toArray, List.set_cons_zero, List.set_cons_succ])
        exact T1_3 q7 q12 o1 c1 x1 u2 ⟨hn2, h7, h12⟩
      · go_simp
        have ba := below_a1 u (.cells #[.slice (some ⟨g0, 0, none⟩) a.length c0] 22 (0, 0))
        have hn2 := hn.below ba
        have h7 := heap_keep h7 ba
        have h12 := heap_keep h12 ba
        have h17 := heap_alloc_new u (.cells #[.slice (some ⟨g0, 0, none⟩) a.length c0] 22 (0, 0))
        refine hK.out _ _ ⟨hn2.1, k0 _ hn2.1⟩ (fun hHeld => ?_)
        clear hK K hHeld ba hn
        (try simp only [Act.put, List.setIfInBounds_toArray, List.set_cons_zero, List.set_cons_succ])
        obtain ⟨q17, hq⟩ : ∃ q, u.heap.size = q := ⟨_, rfl⟩
        rw [hq] at h17 ⊢
        obtain ⟨u2, hu⟩ : ∃ u2, World.alloc u (.cells #[.slice (some ⟨g0, 0, none⟩) a.length c0] 22 (0, 0)) = u2 := ⟨_, rfl⟩
        rw [hu] at h7 h12 h17 hn2 ⊢
        clear hq hu
        exact T0_7 q7 q12 q17 u2 ⟨hn2, h7, h12, h17⟩
    · -- 0 calls, builds 5
      intro q7 q17 u hF
      obtain ⟨hn, h7, h17⟩ := hF
      refine wpAnyH_ready (rs := [3, 12]) (by kernel_rfl) (by simp) ?_
      refine (AllReadyH.cons (o := (Go.Oper.mk (some 26) (Go.Op.call (Go.Call.mk (Go.Callee.value (Go.Operand.func 21)) #[Go.Operand.tmp 25] #[22])) 22 _ #[Go.Edge.mk 2 Go.Ground.data] none)) rfl (fun K hK => ?_) (AllReadyH.cons (o := (Go.Oper.mk (some 35) (Go.Op.buildSlice 23 1 #[(0, Go.Operand.tmp 34)]) 23 _ #[Go.Edge.mk 11 Go.Ground.data] none)) rfl (fun K hK => ?_) AllReadyH.nil))
      · go_simp
        refine (own_of hn (Below.refl _ _) hSa.out ha (R0.out _ hn.1)).mono ?_
        rintro e u2 ⟨o1, c1, x1, rfl, hn2, hh⟩
        have h7 := hh _ _ h7
        have h17 := hh _ _ h17
        clear hh hn
        go_wp2_with fail
        refine hK.out _ _ ⟨hn2.1, k0 _ hn2.1⟩ (fun hHeld => ?_)
        clear hK K hHeld
        (try simp only [Act.put, List.setIfInBounds_toArray, List.set_cons_zero, List.set_cons_succ])
        exact T1_5 q7 q17 o1 c1 x1 u2 ⟨hn2, h7, h17⟩
      · go_simp
        have ba := below_a1 u (.cells #[.slice (some ⟨g0, 0, none⟩) a.length c0] 22 (0, 0))
        have hn2 := hn.below ba
        have h7 := heap_keep h7 ba
        have h17 := heap_keep h17 ba
        have h12 := heap_alloc_new u (.cells #[.slice (some ⟨g0, 0, none⟩) a.length c0] 22 (0, 0))
        refine hK.out _ _ ⟨hn2.1, k0 _ hn2.1⟩ (fun hHeld => ?_)
        clear hK K hHeld ba hn
        (try simp only [Act.put, List.setIfInBounds_toArray, List.set_cons_zero, List.set_cons_succ])
        obtain ⟨q12, hq⟩ : ∃ q, u.heap.size = q := ⟨_, rfl⟩
        rw [hq] at h12 ⊢
        obtain ⟨u2, hu⟩ : ∃ u2, World.alloc u (.cells #[.slice (some ⟨g0, 0, none⟩) a.length c0] 22 (0, 0)) = u2 := ⟨_, rfl⟩
        rw [hu] at h7 h12 h17 hn2 ⊢
        clear hq hu
        exact T0_7 q7 q12 q17 u2 ⟨hn2, h7, h12, h17⟩
    · -- 0 calls, builds 6
      intro q12 q17 u hF
      obtain ⟨hn, h12, h17⟩ := hF
      refine wpAnyH_ready (rs := [3, 7]) (by kernel_rfl) (by simp) ?_
      refine (AllReadyH.cons (o := (Go.Oper.mk (some 26) (Go.Op.call (Go.Call.mk (Go.Callee.value (Go.Operand.func 21)) #[Go.Operand.tmp 25] #[22])) 22 _ #[Go.Edge.mk 2 Go.Ground.data] none)) rfl (fun K hK => ?_) (AllReadyH.cons (o := (Go.Oper.mk (some 30) (Go.Op.buildSlice 23 1 #[(0, Go.Operand.tmp 29)]) 23 _ #[Go.Edge.mk 6 Go.Ground.data] none)) rfl (fun K hK => ?_) AllReadyH.nil))
      · go_simp
        refine (own_of hn (Below.refl _ _) hSa.out ha (R0.out _ hn.1)).mono ?_
        rintro e u2 ⟨o1, c1, x1, rfl, hn2, hh⟩
        have h12 := hh _ _ h12
        have h17 := hh _ _ h17
        clear hh hn
        go_wp2_with fail
        refine hK.out _ _ ⟨hn2.1, k0 _ hn2.1⟩ (fun hHeld => ?_)
        clear hK K hHeld
        (try simp only [Act.put, List.setIfInBounds_toArray, List.set_cons_zero, List.set_cons_succ])
        exact T1_6 q12 q17 o1 c1 x1 u2 ⟨hn2, h12, h17⟩
      · go_simp
        have ba := below_a1 u (.cells #[.slice (some ⟨g0, 0, none⟩) a.length c0] 22 (0, 0))
        have hn2 := hn.below ba
        have h12 := heap_keep h12 ba
        have h17 := heap_keep h17 ba
        have h7 := heap_alloc_new u (.cells #[.slice (some ⟨g0, 0, none⟩) a.length c0] 22 (0, 0))
        refine hK.out _ _ ⟨hn2.1, k0 _ hn2.1⟩ (fun hHeld => ?_)
        clear hK K hHeld ba hn
        (try simp only [Act.put, List.setIfInBounds_toArray, List.set_cons_zero, List.set_cons_succ])
        obtain ⟨q7, hq⟩ : ∃ q, u.heap.size = q := ⟨_, rfl⟩
        rw [hq] at h7 ⊢
        obtain ⟨u2, hu⟩ : ∃ u2, World.alloc u (.cells #[.slice (some ⟨g0, 0, none⟩) a.length c0] 22 (0, 0)) = u2 := ⟨_, rfl⟩
        rw [hu] at h7 h12 h17 hn2 ⊢
        clear hq hu
        exact T0_7 q7 q12 q17 u2 ⟨hn2, h7, h12, h17⟩
    · -- 0 calls, builds 7
      intro q7 q12 q17 u hF
      obtain ⟨hn, h7, h12, h17⟩ := hF
      refine wpAnyH_ready (rs := [3]) (by kernel_rfl) (by simp) ?_
      refine (AllReadyH.cons (o := (Go.Oper.mk (some 26) (Go.Op.call (Go.Call.mk (Go.Callee.value (Go.Operand.func 21)) #[Go.Operand.tmp 25] #[22])) 22 _ #[Go.Edge.mk 2 Go.Ground.data] none)) rfl (fun K hK => ?_) AllReadyH.nil)
      · go_simp
        refine (own_of hn (Below.refl _ _) hSa.out ha (R0.out _ hn.1)).mono ?_
        rintro e u2 ⟨o1, c1, x1, rfl, hn2, hh⟩
        have h7 := hh _ _ h7
        have h12 := hh _ _ h12
        have h17 := hh _ _ h17
        clear hh hn
        go_wp2_with fail
        refine hK.out _ _ ⟨hn2.1, k0 _ hn2.1⟩ (fun hHeld => ?_)
        clear hK K hHeld
        (try simp only [Act.put, List.setIfInBounds_toArray, List.set_cons_zero, List.set_cons_succ])
        exact T1_7 q7 q12 q17 o1 c1 x1 u2 ⟨hn2, h7, h12, h17⟩
    · -- 1 calls, builds 0
      intro o1 c1 x1 u hF
      have hn := hF
      refine wpAnyH_ready (rs := [7, 12, 17]) (by kernel_rfl) (by simp) ?_
      refine (AllReadyH.cons (o := (Go.Oper.mk (some 30) (Go.Op.buildSlice 23 1 #[(0, Go.Operand.tmp 29)]) 23 _ #[Go.Edge.mk 6 Go.Ground.data] none)) rfl (fun K hK => ?_) (AllReadyH.cons (o := (Go.Oper.mk (some 35) (Go.Op.buildSlice 23 1 #[(0, Go.Operand.tmp 34)]) 23 _ #[Go.Edge.mk 11 Go.Ground.data] none)) rfl (fun K hK => ?_) (AllReadyH.cons (o := (Go.Oper.mk (some 40) (Go.Op.buildSlice 23 1 #[(0, Go.Operand.tmp 39)]) 23 _ #[Go.Edge.mk 16 Go.Ground.data] none)) rfl (fun K hK => ?_) AllReadyH.nil)))
      · go_simp
        have ba := below_a1 u (.cells #[.slice (some ⟨g0, 0, none⟩) a.length c0] 22 (0, 0))
        have hn2 := hn.below ba
        have h7 := heap_alloc_new u (.cells #[.slice (some ⟨g0, 0, none⟩) a.length c0] 22 (0, 0))
        refine hK.out _ _ ⟨hn2.1, k0 _ hn2.1⟩ (fun hHeld => ?_)
        clear hK K hHeld ba hn
        (try simp only [Act.put, List.setIfInBounds_toArray, List.set_cons_zero, List.set_cons_succ])
        obtain ⟨q7, hq⟩ : ∃ q, u.heap.size = q := ⟨_, rfl⟩
        rw [hq] at h7 ⊢
        obtain ⟨u2, hu⟩ : ∃ u2, World.alloc u (.cells #[.slice (some ⟨g0, 0, none⟩) a.length c0] 22 (0, 0)) = u2 := ⟨_, rfl⟩
        rw [hu] at h7 hn2 ⊢
        clear hq hu
        exact T1_1 q7 o1 c1 x1 u2 ⟨hn2, h7⟩
      · go_simp
        have ba := below_a1 u (.cells #[.slice (some ⟨g0, 0, none⟩) a.length c0] 22 (0, 0))
        have hn2 := hn.below ba
        have h12 := heap_alloc_new u (.cells #[.slice (some ⟨g0, 0, none⟩) a.length c0] 22 (0, 0))
        refine hK.out _ _ ⟨hn2.1, k0 _ hn2.1⟩ (fun hHeld => ?_)
        clear hK K hHeld ba hn
        (try simp only [Act.put, List.setIfInBounds_toArray, List.set_cons_zero, List.set_cons_succ])
        obtain ⟨q12, hq⟩ : ∃ q, u.heap.size = q := ⟨_, rfl⟩
        rw [hq] at h12 ⊢
        obtain ⟨u2, hu⟩ : ∃ u2, World.alloc u (.cells #[.slice (some ⟨g0, 0, none⟩) a.length c0] 22 (0, 0)) = u2 := ⟨_, rfl⟩
        rw [hu] at h12 hn2 ⊢
        clear hq hu
        exact T1_2 q12 o1 c1 x1 u2 ⟨hn2, h12⟩
      · go_simp
        have ba := below_a1 u (.cells #[.slice (some ⟨g0, 0, none⟩) a.length c0] 22 (0, 0))
        have hn2 := hn.below ba
        have h17 := heap_alloc_new u (.cells #[.slice (some ⟨g0, 0, none⟩) a.length c0] 22 (0, 0))
        refine hK.out _ _ ⟨hn2.1, k0 _ hn2.1⟩ (fun hHeld => ?_)
        clear hK K hHeld ba hn
        (try simp only [Act.put, List.setIfInBounds_toArray, List.set_cons_zero, List.set_cons_succ])
        obtain ⟨q17, hq⟩ : ∃ q, u.heap.size = q := ⟨_, rfl⟩
        rw [hq] at h17 ⊢
        obtain ⟨u2, hu⟩ : ∃ u2, World.alloc u (.cells #[.slice (some ⟨g0, 0, none⟩) a.length c0] 22 (0, 0)) = u2 := ⟨_, rfl⟩
        rw [hu] at h17 hn2 ⊢
        clear hq hu
        exact T1_4 q17 o1 c1 x1 u2 ⟨hn2, h17⟩
    · -- 1 calls, builds 1
      intro q7 o1 c1 x1 u hF
      obtain ⟨hn, h7⟩ := hF
      refine wpAnyH_ready (rs := [8, 12, 17]) (by kernel_rfl) (by simp) ?_
      refine (AllReadyH.cons (o := (Go.Oper.mk (some 31) (Go.Op.call (Go.Call.mk (Go.Callee.value (Go.Operand.func 26)) #[Go.Operand.tmp 30] #[23])) 22 _ #[Go.Edge.mk 7 Go.Ground.data, Go.Edge.mk 3 Go.Ground.chain] none)) rfl (fun K hK => ?_) (AllReadyH.cons (o := (Go.Oper.mk (some 35) (Go.Op.buildSlice 23 1 #[(0, Go.Operand.tmp 34)]) 23 _ #[Go.Edge.mk 11 Go.Ground.data] none)) rfl (fun K hK => ?_) (AllReadyH.cons (o := (Go.Oper.mk (some 40) (Go.Op.buildSlice 23 1 #[(0, Go.Operand.tmp 39)]) 23 _ #[Go.Edge.mk 16 Go.Ground.data] none)) rfl (fun K hK => ?_) AllReadyH.nil)))
      · go_simp
        refine (own_union1 hn (Below.refl _ _) hSa.out ha (tlc_of h7 (R0.out _ hn.1)).tl).mono ?_
        rintro e u2 ⟨o2, c2, x2, rfl, hn2, hh⟩
        have h7 := hh _ _ h7
        clear hh hn
        go_wp2_with fail
        refine hK.out _ _ ⟨hn2.1, k0 _ hn2.1⟩ (fun hHeld => ?_)
        clear hK K hHeld
        (try simp only [Act.put, List.setIfInBounds_toArray, List.set_cons_zero, List.set_cons_succ])
        exact T2_1 q7 o1 c1 x1 o2 c2 x2 u2 hn2
      · go_simp
        have ba := below_a1 u (.cells #[.slice (some ⟨g0, 0, none⟩) a.length c0] 22 (0, 0))
        have hn2 := hn.below ba
        have h7 := heap_keep h7 ba
        have h12 := heap_alloc_new u (.cells #[.slice (some ⟨g0, 0, none⟩) a.length c0] 22 (0, 0))
        refine hK.out _ _ ⟨hn2.1, k0 _ hn2.1⟩ (fun hHeld => ?_)
        clear hK K hHeld ba hn
        (try simp only [Act.put, List.setIfInBounds_toArray, List.set_cons_zero, List.set_cons_succ])
        obtain ⟨q12, hq⟩ : ∃ q, u.heap.size = q := ⟨_, rfl⟩
        rw [hq] at h12 ⊢
        obtain ⟨u2, hu⟩ : ∃ u2, World.alloc u (.cells #[.slice (some ⟨g0, 0, none⟩) a.length c0] 22 (0, 0)) = u2 := ⟨_, rfl⟩
        rw [hu] at h7 h12 hn2 ⊢
        clear hq hu
        exact T1_3 q7 q12 o1 c1 x1 u2 ⟨hn2, h7, h12⟩
      · go_simp
        have ba := below_a1 u (.cells #[.slice (some ⟨g0, 0, none⟩) a.length c0] 22 (0, 0))
        have hn2 := hn.below ba
        have h7 := heap_keep h7 ba
        have h17 := heap_alloc_new u (.cells #[.slice (some ⟨g0, 0, none⟩) a.length c0] 22 (0, 0))
        refine hK.out _ _ ⟨hn2.1, k0 _ hn2.1⟩ (fun hHeld => ?_)
        clear hK K hHeld ba hn
        (try simp only [Act.put, List.setIfInBounds_toArray, List.set_cons_zero, List.set_cons_succ])
        obtain ⟨q17, hq⟩ : ∃ q, u.heap.size = q := ⟨_, rfl⟩
        rw [hq] at h17 ⊢
        obtain ⟨u2, hu⟩ : ∃ u2, World.alloc u (.cells #[.slice (some ⟨g0, 0, none⟩) a.length c0] 22 (0, 0)) = u2 := ⟨_, rfl⟩
        rw [hu] at h7 h17 hn2 ⊢
        clear hq hu
        exact T1_5 q7 q17 o1 c1 x1 u2 ⟨hn2, h7, h17⟩
    · -- 1 calls, builds 2
      intro q12 o1 c1 x1 u hF
      obtain ⟨hn, h12⟩ := hF
      refine wpAnyH_ready (rs := [7, 17]) (by kernel_rfl) (by simp) ?_
      refine (AllReadyH.cons (o := (Go.Oper.mk (some 30) (Go.Op.buildSlice 23 1 #[(0, Go.Operand.tmp 29)]) 23 _ #[Go.Edge.mk 6 Go.Ground.data] none)) rfl (fun K hK => ?_) (AllReadyH.cons (o := (Go.Oper.mk (some 40) (Go.Op.buildSlice 23 1 #[(0, Go.Operand.tmp 39)]) 23 _ #[Go.Edge.mk 16 Go.Ground.data] none)) rfl (fun K hK => ?_) AllReadyH.nil))
      · go_simp
        have ba := below_a1 u (.cells #[.slice (some ⟨g0, 0, none⟩) a.length c0] 22 (0, 0))
        have hn2 := hn.below ba
        have h12 := heap_keep h12 ba
        have h7 := heap_alloc_new u (.cells #[.slice (some ⟨g0, 0, none⟩) a.length c0] 22 (0, 0))
        refine hK.out _ _ ⟨hn2.1, k0 _ hn2.1⟩ (fun hHeld => ?_)
        clear hK K hHeld ba hn
        (try simp only [Act.put, List.setIfInBounds_toArray, List.set_cons_zero, List.set_cons_succ])
        obtain ⟨q7, hq⟩ : ∃ q, u.heap.size = q := ⟨_, rfl⟩
        rw [hq] at h7 ⊢
        obtain ⟨u2, hu⟩ : ∃ u2, World.alloc u (.cells #[.slice (some ⟨g0, 0, none⟩) a.length c0] 22 (0, 0)) = u2 := ⟨_, rfl⟩
        rw [hu] at h7 h12 hn2 ⊢
        clear hq hu
        exact T1_3 q7 q12 o1 c1 x1 u2 ⟨hn2, h7, h12⟩
      · go_simp
        have ba := below_a1 u (.cells #[.slice (some ⟨g0, 0, none⟩) a.length c0] 22 (0, 0))
        have hn2 := hn.below ba
        have h12 := heap_keep h12 ba
        have h17 := heap_alloc_new u (.cells #[.slice (some ⟨g0, 0, none⟩) a.length c0] 22 (0, 0))
        refine hK.out _ _ ⟨hn2.1, k0 _ hn2.1⟩ (fun hHeld => ?_)
        clear hK K hHeld ba hn
        (try simp only [Act.put, List.setIfInBounds_toArray, List.set_cons_zero, List.set_cons_succ])
        obtain ⟨q17, hq⟩ : ∃ q, u.heap.size = q := ⟨_, rfl⟩
        rw [hq] at h17 ⊢
        obtain ⟨u2, hu⟩ : ∃ u2, World.alloc u (.cells #[.slice (some ⟨g0, 0, none⟩) a.length c0] 22 (0, 0)) = u2 := ⟨_, rfl⟩
        rw [hu] at h12 h17 hn2 ⊢
        clear hq hu
        exact T1_6 q12 q17 o1 c1 x1 u2 ⟨hn2, h12, h17⟩
    · -- 1 calls, builds 4
      intro q17 o1 c1 x1 u hF
      obtain ⟨hn, h17⟩ := hF
      refine wpAnyH_ready (rs := [7, 12]) (by kernel_rfl) (by simp) ?_
      refine (AllReadyH.cons (o := (Go.Oper.mk (some 30) (Go.Op.buildSlice 23 1 #[(0, Go.Operand.tmp 29)]) 23 _ #[Go.Edge.mk 6 Go.Ground.data] none)) rfl (fun K hK => ?_) (AllReadyH.cons (o := (Go.Oper.mk (some 35) (Go.Op.buildSlice 23 1 #[(0, Go.Operand.tmp 34)]) 23 _ #[Go.Edge.mk 11 Go.Ground.data] none)) rfl (fun K hK => ?_) AllReadyH.nil))
      · go_simp
        have ba := below_a1 u (.cells #[.slice (some ⟨g0, 0, none⟩) a.length c0] 22 (0, 0))
        have hn2 := hn.below ba
        have h17 := heap_keep h17 ba
        have h7 := heap_alloc_new u (.cells #[.slice (some ⟨g0, 0, none⟩) a.length c0] 22 (0, 0))
        refine hK.out _ _ ⟨hn2.1, k0 _ hn2.1⟩ (fun hHeld => ?_)
        clear hK K hHeld ba hn
        (try simp only [Act.put, List.setIfInBounds_toArray, List.set_cons_zero, List.set_cons_succ])
        obtain ⟨q7, hq⟩ : ∃ q, u.heap.size = q := ⟨_, rfl⟩
        rw [hq] at h7 ⊢
        obtain ⟨u2, hu⟩ : ∃ u2, World.alloc u (.cells #[.slice (some ⟨g0, 0, none⟩) a.length c0] 22 (0, 0)) = u2 := ⟨_, rfl⟩
        rw [hu] at h7 h17 hn2 ⊢
        clear hq hu
        exact T1_5 q7 q17 o1 c1 x1 u2 ⟨hn2, h7, h17⟩
      · go_simp
        have ba := below_a1 u (.cells #[.slice (some ⟨g0, 0, none⟩) a.length c0] 22 (0, 0))
        have hn2 := hn.below ba
        have h17 := heap_keep h17 ba
        have h12 := heap_alloc_new u (.cells #[.slice (some ⟨g0, 0, none⟩) a.length c0] 22 (0, 0))
        refine hK.out _ _ ⟨hn2.1, k0 _ hn2.1⟩ (fun hHeld => ?_)
        clear hK K hHeld ba hn
        (try simp only [Act.put, List.setIfInBounds_toArray, List.set_cons_zero, List.set_cons_succ])
        obtain ⟨q12, hq⟩ : ∃ q, u.heap.size = q := ⟨_, rfl⟩
        rw [hq] at h12 ⊢
        obtain ⟨u2, hu⟩ : ∃ u2, World.alloc u (.cells #[.slice (some ⟨g0, 0, none⟩) a.length c0] 22 (0, 0)) = u2 := ⟨_, rfl⟩
        rw [hu] at h12 h17 hn2 ⊢
        clear hq hu
        exact T1_6 q12 q17 o1 c1 x1 u2 ⟨hn2, h12, h17⟩
    · -- 1 calls, builds 3
      intro q7 q12 o1 c1 x1 u hF
      obtain ⟨hn, h7, h12⟩ := hF
      refine wpAnyH_ready (rs := [8, 17]) (by kernel_rfl) (by simp) ?_
      refine (AllReadyH.cons (o := (Go.Oper.mk (some 31) (Go.Op.call (Go.Call.mk (Go.Callee.value (Go.Operand.func 26)) #[Go.Operand.tmp 30] #[23])) 22 _ #[Go.Edge.mk 7 Go.Ground.data, Go.Edge.mk 3 Go.Ground.chain] none)) rfl (fun K hK => ?_) (AllReadyH.cons (o := (Go.Oper.mk (some 40) (Go.Op.buildSlice 23 1 #[(0, Go.Operand.tmp 39)]) 23 _ #[Go.Edge.mk 16 Go.Ground.data] none)) rfl (fun K hK => ?_) AllReadyH.nil))
      · go_simp
        refine (own_union1 hn (Below.refl _ _) hSa.out ha (tlc_of h7 (R0.out _ hn.1)).tl).mono ?_
        rintro e u2 ⟨o2, c2, x2, rfl, hn2, hh⟩
        have h7 := hh _ _ h7
        have h12 := hh _ _ h12
        clear hh hn
        go_wp2_with fail
        refine hK.out _ _ ⟨hn2.1, k0 _ hn2.1⟩ (fun hHeld => ?_)
        clear hK K hHeld
        (try simp only [Act.put, List.setIfInBounds_toArray, List.set_cons_zero, List.set_cons_succ])
        exact T2_3 q7 q12 o1 c1 x1 o2 c2 x2 u2 ⟨hn2, h12⟩
      · go_simp
        have ba := below_a1 u (.cells #[.slice (some ⟨g0, 0, none⟩) a.length c0] 22 (0, 0))
        have hn2 := hn.below ba
        have h7 := heap_keep h7 ba
        have h12 := heap_keep h12 ba
        have h17 := heap_alloc_new u (.cells #[.slice (some ⟨g0, 0, none⟩) a.length c0] 22 (0, 0))
        refine hK.out _ _ ⟨hn2.1, k0 _ hn2.1⟩ (fun hHeld => ?_)
        clear hK K hHeld ba hn
        (try simp only [Act.put, List.setIfInBounds_toArray, List.set_cons_zero, List.set_cons_succ])
        obtain ⟨q17, hq⟩ : ∃ q, u.heap.size = q := ⟨_, rfl⟩
        rw [hq] at h17 ⊢
        obtain ⟨u2, hu⟩ : ∃ u2, World.alloc u (.cells #[.slice (some ⟨g0, 0, none⟩) a.length c0] 22 (0, 0)) = u2 := ⟨_, rfl⟩
        rw [hu] at h7 h12 h17 hn2 ⊢
        clear hq hu
        exact T1_7 q7 q12 q17 o1 c1 x1 u2 ⟨hn2, h7, h12, h17⟩
    · -- 1 calls, builds 5
      intro q7 q17 o1 c1 x1 u hF
      obtain ⟨hn, h7, h17⟩ := hF
      refine wpAnyH_ready (rs := [8, 12]) (by kernel_rfl) (by simp) ?_
      refine (AllReadyH.cons (o := (Go.Oper.mk (some 31) (Go.Op.call (Go.Call.mk (Go.Callee.value (Go.Operand.func 26)) #[Go.Operand.tmp 30] #[23])) 22 _ #[Go.Edge.mk 7 Go.Ground.data, Go.Edge.mk 3 Go.Ground.chain] none)) rfl (fun K hK => ?_) (AllReadyH.cons (o := (Go.Oper.mk (some 35) (Go.Op.buildSlice 23 1 #[(0, Go.Operand.tmp 34)]) 23 _ #[Go.Edge.mk 11 Go.Ground.data] none)) rfl (fun K hK => ?_) AllReadyH.nil))
      · go_simp
        refine (own_union1 hn (Below.refl _ _) hSa.out ha (tlc_of h7 (R0.out _ hn.1)).tl).mono ?_
        rintro e u2 ⟨o2, c2, x2, rfl, hn2, hh⟩
        have h7 := hh _ _ h7
        have h17 := hh _ _ h17
        clear hh hn
        go_wp2_with fail
        refine hK.out _ _ ⟨hn2.1, k0 _ hn2.1⟩ (fun hHeld => ?_)
        clear hK K hHeld
        (try simp only [Act.put, List.setIfInBounds_toArray, List.set_cons_zero, List.set_cons_succ])
        exact T2_5 q7 q17 o1 c1 x1 o2 c2 x2 u2 ⟨hn2, h17⟩
      · go_simp
        have ba := below_a1 u (.cells #[.slice (some ⟨g0, 0, none⟩) a.length c0] 22 (0, 0))
        have hn2 := hn.below ba
        have h7 := heap_keep h7 ba
        have h17 := heap_keep h17 ba
        have h12 := heap_alloc_new u (.cells #[.slice (some ⟨g0, 0, none⟩) a.length c0] 22 (0, 0))
        refine hK.out _ _ ⟨hn2.1, k0 _ hn2.1⟩ (fun hHeld => ?_)
        clear hK K hHeld ba hn
        (try simp only [Act.put, List.setIfInBounds_toArray, List.set_cons_zero, List.set_cons_succ])
        obtain ⟨q12, hq⟩ : ∃ q, u.heap.size = q := ⟨_, rfl⟩
        rw [hq] at h12 ⊢
        obtain ⟨u2, hu⟩ : ∃ u2, World.alloc u (.cells #[.slice (some ⟨g0, 0, none⟩) a.length c0] 22 (0, 0)) = u2 := ⟨_, rfl⟩
        rw [hu] at h7 h12 h17 hn2 ⊢
        clear hq hu
        exact T1_7 q7 q12 q17 o1 c1 x1 u2 ⟨hn2, h7, h12, h17⟩
    · -- 1 calls, builds 6
      intro q12 q17 o1 c1 x1 u hF
      obtain ⟨hn, h12, h17⟩ := hF
      refine wpAnyH_ready (rs := [7]) (by kernel_rfl) (by simp) ?_
      refine (AllReadyH.cons (o := (Go.Oper.mk (some 30) (Go.Op.buildSlice 23 1 #[(0, Go.Operand.tmp 29)]) 23 _ #[Go.Edge.mk 6 Go.Ground.data] none)) rfl (fun K hK => ?_) AllReadyH.nil)
      · go_simp
        have ba := below_a1 u (.cells #[.slice (some ⟨g0, 0, none⟩) a.length c0] 22 (0, 0))
        have hn2 := hn.below ba
        have h12 := heap_keep h12 ba
        have h17 := heap_keep h17 ba
        have h7 := heap_alloc_new u (.cells #[.slice (some ⟨g0, 0, none⟩) a.length c0] 22 (0, 0))
        refine hK.out _ _ ⟨hn2.1, k0 _ hn2.1⟩ (fun hHeld => ?_)
        clear hK K hHeld ba hn
        (try simp only [Act.put, List.setIfInBounds_toArray, List.set_cons_zero, List.set_cons_succ])
        obtain ⟨q7, hq⟩ : ∃ q, u.heap.size = q := ⟨_, rfl⟩
        rw [hq] at h7 ⊢
        obtain ⟨u2, hu⟩ : ∃ u2, World.alloc u (.cells #[.slice (some ⟨g0, 0, none⟩) a.length c0] 22 (0, 0)) = u2 := ⟨_, rfl⟩
        rw [hu] at h7 h12 h17 hn2 ⊢
        clear hq hu
        exact T1_7 q7 q12 q17 o1 c1 x1 u2 ⟨hn2, h7, h12, h17⟩
    · -- 1 calls, builds 7
      intro q7 q12 q17 o1 c1 x1 u hF
      obtain ⟨hn, h7, h12, h17⟩ := hF
      refine wpAnyH_ready (rs := [8]) (by kernel_rfl) (by simp) ?_
      refine (AllReadyH.cons (o := (Go.Oper.mk (some 31) (Go.Op.call (Go.Call.mk (Go.Callee.value (Go.Operand.func 26)) #[Go.Operand.tmp 30] #[23])) 22 _ #[Go.Edge.mk 7 Go.Ground.data, Go.Edge.mk 3 Go.Ground.chain] none)) rfl (fun K hK => ?_) AllReadyH.nil)
      · go_simp
        refine (own_union1 hn (Below.refl _ _) hSa.out ha (tlc_of h7 (R0.out _ hn.1)).tl).mono ?_
        rintro e u2 ⟨o2, c2, x2, rfl, hn2, hh⟩
        have h7 := hh _ _ h7
        have h12 := hh _ _ h12
        have h17 := hh _ _ h17
        clear hh hn
        go_wp2_with fail
        refine hK.out _ _ ⟨hn2.1, k0 _ hn2.1⟩ (fun hHeld => ?_)
        clear hK K hHeld
        (try simp only [Act.put, List.setIfInBounds_toArray, List.set_cons_zero, List.set_cons_succ])
        exact T2_7 q7 q12 q17 o1 c1 x1 o2 c2 x2 u2 ⟨hn2, h12, h17⟩
    · -- 2 calls, builds 1
      intro q7 o1 c1 x1 o2 c2 x2 u hF
      have hn := hF
      refine wpAnyH_ready (rs := [12, 17]) (by kernel_rfl) (by simp) ?_
      refine (AllReadyH.cons (o := (Go.Oper.mk (some 35) (Go.Op.buildSlice 23 1 #[(0, Go.Operand.tmp 34)]) 23 _ #[Go.Edge.mk 11 Go.Ground.data] none)) rfl (fun K hK => ?_) (AllReadyH.cons (o := (Go.Oper.mk (some 40) (Go.Op.buildSlice 23 1 #[(0, Go.Operand.tmp 39)]) 23 _ #[Go.Edge.mk 16 Go.Ground.data] none)) rfl (fun K hK => ?_) AllReadyH.nil))
      · go_simp
        have ba := below_a1 u (.cells #[.slice (some ⟨g0, 0, none⟩) a.length c0] 22 (0, 0))
        have hn2 := hn.below ba
        have h12 := heap_alloc_new u (.cells #[.slice (some ⟨g0, 0, none⟩) a.length c0] 22 (0, 0))
        refine hK.out _ _ ⟨hn2.1, k0 _ hn2.1⟩ (fun hHeld => ?_)
        clear hK K hHeld ba hn
        (try simp only [Act.put, List.setIfInBounds_toArray, List.set_cons_zero, List.set_cons_succ])
        obtain ⟨q12, hq⟩ : ∃ q, u.heap.size = q := ⟨_, rfl⟩
        rw [hq] at h12 ⊢
        obtain ⟨u2, hu⟩ : ∃ u2, World.alloc u (.cells #[.slice (some ⟨g0, 0, none⟩) a.length c0] 22 (0, 0)) = u2 := ⟨_, rfl⟩
        rw [hu] at h12 hn2 ⊢
        clear hq hu
        exact T2_3 q7 q12 o1 c1 x1 o2 c2 x2 u2 ⟨hn2, h12⟩
      · go_simp
        have ba := below_a1 u (.cells #[.slice (some ⟨g0, 0, none⟩) a.length c0] 22 (0, 0))
        have hn2 := hn.below ba
        have h17 := heap_alloc_new u (.cells #[.slice (some ⟨g0, 0, none⟩) a.length c0] 22 (0, 0))
        refine hK.out _ _ ⟨hn2.1, k0 _ hn2.1⟩ (fun hHeld => ?_)
        clear hK K hHeld ba hn
        (try simp only [Act.put, List.setIfInBounds_toArray, List.set_cons_zero, List.set_cons_succ])
        obtain ⟨q17, hq⟩ : ∃ q, u.heap.size = q := ⟨_, rfl⟩
        rw [hq] at h17 ⊢
        obtain ⟨u2, hu⟩ : ∃ u2, World.alloc u (.cells #[.slice (some ⟨g0, 0, none⟩) a.length c0] 22 (0, 0)) = u2 := ⟨_, rfl⟩
        rw [hu] at h17 hn2 ⊢
        clear hq hu
        exact T2_5 q7 q17 o1 c1 x1 o2 c2 x2 u2 ⟨hn2, h17⟩
    · -- 2 calls, builds 3
      intro q7 q12 o1 c1 x1 o2 c2 x2 u hF
      obtain ⟨hn, h12⟩ := hF
      refine wpAnyH_ready (rs := [13, 17]) (by kernel_rfl) (by simp) ?_
      refine (AllReadyH.cons (o := (Go.Oper.mk (some 36) (Go.Op.call (Go.Call.mk (Go.Callee.value (Go.Operand.func 28)) #[Go.Operand.tmp 35] #[23])) 22 _ #[Go.Edge.mk 12 Go.Ground.data, Go.Edge.mk 8 Go.Ground.chain] none)) rfl (fun K hK => ?_) (AllReadyH.cons (o := (Go.Oper.mk (some 40) (Go.Op.buildSlice 23 1 #[(0, Go.Operand.tmp 39)]) 23 _ #[Go.Edge.mk 16 Go.Ground.data] none)) rfl (fun K hK => ?_) AllReadyH.nil))
      · go_simp
        refine (own_inter hn (Below.refl _ _) hSa.out ha (tlc_of h12 (R0.out _ hn.1))).mono ?_
        rintro e u2 ⟨o3, c3, x3, rfl, hn2, hh⟩
        have h12 := hh _ _ h12
        clear hh hn
        go_wp2_with fail
        refine hK.out _ _ ⟨hn2.1, k0 _ hn2.1⟩ (fun hHeld => ?_)
        clear hK K hHeld
        (try simp only [Act.put, List.setIfInBounds_toArray, List.set_cons_zero, List.set_cons_succ])
        exact T3_3 q7 q12 o1 c1 x1 o2 c2 x2 o3 c3 x3 u2 hn2
      · go_simp
        have ba := below_a1 u (.cells #[.slice (some ⟨g0, 0, none⟩) a.length c0] 22 (0, 0))
        have hn2 := hn.below ba
        have h12 := heap_keep h12 ba
        have h17 := heap_alloc_new u (.cells #[.slice (some ⟨g0, 0, none⟩) a.length c0] 22 (0, 0))
        refine hK.out _ _ ⟨hn2.1, k0 _ hn2.1⟩ (fun hHeld => ?_)
        clear hK K hHeld ba hn
        (try simp only [Act.put, List.setIfInBounds_toArray, List.set_cons_zero, List.set_cons_succ])
        obtain ⟨q17, hq⟩ : ∃ q, u.heap.size = q := ⟨_, rfl⟩
        rw [hq] at h17 ⊢
        obtain ⟨u2, hu⟩ : ∃ u2, World.alloc u (.cells #[.slice (some ⟨g0, 0, none⟩) a.length c0] 22 (0, 0)) = u2 := ⟨_, rfl⟩
        rw [hu] at h12 h17 hn2 ⊢
        clear hq hu
        exact T2_7 q7 q12 q17 o1 c1 x1 o2 c2 x2 u2 ⟨hn2, h12, h17⟩
    · -- 2 calls, builds 5
      intro q7 q17 o1 c1 x1 o2 c2 x2 u hF
      obtain ⟨hn, h17⟩ := hF
      refine wpAnyH_ready (rs := [12]) (by kernel_rfl) (by simp) ?_
      refine (AllReadyH.cons (o := (Go.Oper.mk (some 35) (Go.Op.buildSlice 23 1 #[(0, Go.Operand.tmp 34)]) 23 _ #[Go.Edge.mk 11 Go.Ground.data] none)) rfl (fun K hK => ?_) AllReadyH.nil)
      · go_simp
        have ba := below_a1 u (.cells #[.slice (some ⟨g0, 0, none⟩) a.length c0] 22 (0, 0))
        have hn2 := hn.below ba
        have h17 := heap_keep h17 ba
        have h12 := heap_alloc_new u (.cells #[.slice (some ⟨g0, 0, none⟩) a.length c0] 22 (0, 0))
        refine hK.out _ _ ⟨hn2.1, k0 _ hn2.1⟩ (fun hHeld => ?_)
        clear hK K hHeld ba hn
        (try simp only [Act.put, List.setIfInBounds_toArray, List.set_cons_zero, List.set_cons_succ])
        obtain ⟨q12, hq⟩ : ∃ q, u.heap.size = q := ⟨_, rfl⟩
        rw [hq] at h12 ⊢
        obtain ⟨u2, hu⟩ : ∃ u2, World.alloc u (.cells #[.slice (some ⟨g0, 0, none⟩) a.length c0] 22 (0, 0)) = u2 := ⟨_, rfl⟩
        rw [hu] at h12 h17 hn2 ⊢
        clear hq hu
        exact T2_7 q7 q12 q17 o1 c1 x1 o2 c2 x2 u2 ⟨hn2, h12, h17⟩
    · -- 2 calls, builds 7
      intro q7 q12 q17 o1 c1 x1 o2 c2 x2 u hF
      obtain ⟨hn, h12, h17⟩ := hF
      refine wpAnyH_ready (rs := [13]) (by kernel_rfl) (by simp) ?_
      refine (AllReadyH.cons (o := (Go.Oper.mk (some 36) (Go.Op.call (Go.Call.mk (Go.Callee.value (Go.Operand.func 28)) #[Go.Operand.tmp 35] #[23])) 22 _ #[Go.Edge.mk 12 Go.Ground.data, Go.Edge.mk 8 Go.Ground.chain] none)) rfl (fun K hK => ?_) AllReadyH.nil)
      · go_simp
        refine (own_inter hn (Below.refl _ _) hSa.out ha (tlc_of h12 (R0.out _ hn.1))).mono ?_
        rintro e u2 ⟨o3, c3, x3, rfl, hn2, hh⟩
        have h12 := hh _ _ h12
        have h17 := hh _ _ h17
        clear hh hn
        go_wp2_with fail
        refine hK.out _ _ ⟨hn2.1, k0 _ hn2.1⟩ (fun hHeld => ?_)
        clear hK K hHeld
        (try simp only [Act.put, List.setIfInBounds_toArray, List.set_cons_zero, List.set_cons_succ])
        exact T3_7 q7 q12 q17 o1 c1 x1 o2 c2 x2 o3 c3 x3 u2 ⟨hn2, h17⟩
    · -- 3 calls, builds 3
      intro q7 q12 o1 c1 x1 o2 c2 x2 o3 c3 x3 u hF
      have hn := hF
      refine wpAnyH_ready (rs := [17]) (by kernel_rfl) (by simp) ?_
      refine (AllReadyH.cons (o := (Go.Oper.mk (some 40) (Go.Op.buildSlice 23 1 #[(0, Go.Operand.tmp 39)]) 23 _ #[Go.Edge.mk 16 Go.Ground.data] none)) rfl (fun K hK => ?_) AllReadyH.nil)
      · go_simp
        have ba := below_a1 u (.cells #[.slice (some ⟨g0, 0, none⟩) a.length c0] 22 (0, 0))
        have hn2 := hn.below ba
        have h17 := heap_alloc_new u (.cells #[.slice (some ⟨g0, 0, none⟩) a.length c0] 22 (0, 0))
        refine hK.out _ _ ⟨hn2.1, k0 _ hn2.1⟩ (fun hHeld => ?_)
        clear hK K hHeld ba hn
        (try simp only [Act.put, List.setIfInBounds_toArray, List.set_cons_zero, List.set_cons_succ])
        obtain ⟨q17, hq⟩ : ∃ q, u.heap.size = q := ⟨_, rfl⟩
        rw [hq] at h17 ⊢
        obtain ⟨u2, hu⟩ : ∃ u2, World.alloc u (.cells #[.slice (some ⟨g0, 0, none⟩) a.length c0] 22 (0, 0)) = u2 := ⟨_, rfl⟩
        rw [hu] at h17 hn2 ⊢
        clear hq hu
        exact T3_7 q7 q12 q17 o1 c1 x1 o2 c2 x2 o3 c3 x3 u2 ⟨hn2, h17⟩
    · -- 3 calls, builds 7
      intro q7 q12 q17 o1 c1 x1 o2 c2 x2 o3 c3 x3 u hF
      obtain ⟨hn, h17⟩ := hF
      refine wpAnyH_ready (rs := [18]) (by kernel_rfl) (by simp) ?_
      refine (AllReadyH.cons (o := (Go.Oper.mk (some 41) (Go.Op.call (Go.Call.mk (Go.Callee.value (Go.Operand.func 30)) #[Go.Operand.tmp 40] #[23])) 22 _ #[Go.Edge.mk 17 Go.Ground.data, Go.Edge.mk 13 Go.Ground.chain] none)) rfl (fun K hK => ?_) AllReadyH.nil)
      · go_simp
        refine (own_diff hn (Below.refl _ _) hSa.out ha (tlc_of h17 (R0.out _ hn.1))).mono ?_
        rintro e u2 ⟨o4, c4, x4, rfl, hn2, hh⟩
        have h17 := hh _ _ h17
        clear hh hn
        go_wp2_with fail
        refine hK.out _ _ ⟨hn2.1, k0 _ hn2.1⟩ (fun hHeld => ?_)
        clear hK K hHeld
        (try simp only [Act.put, List.setIfInBounds_toArray, List.set_cons_zero, List.set_cons_succ])
        exact T4_7 q7 q12 q17 o1 c1 x1 o2 c2 x2 o3 c3 x3 o4 c4 x4 u2 hn2
    · -- 4 calls, builds 7
      intro q7 q12 q17 o1 c1 x1 o2 c2 x2 o3 c3 x3 o4 c4 x4 u hF
      have hn := hF
      refine wpAnyH_ready (rs := [22]) (by kernel_rfl) (by simp) ?_
      refine (AllReadyH.cons (o := (Go.Oper.mk (some 45) (Go.Op.call (Go.Call.mk (Go.Callee.value (Go.Operand.func 18)) #[Go.Operand.tmp 44, Go.Operand.const (Go.Value.string (ByteArray.mk #[])), Go.Operand.const (Go.Value.int Go.IntKind.i64 1099511627776)] #[22, 9, 3])) 22 _ #[Go.Edge.mk 21 Go.Ground.data, Go.Edge.mk 18 Go.Ground.chain] none)) rfl (fun K hK => ?_) AllReadyH.nil)
      · go_simp
        refine (own_after hn (Below.refl _ _) hSa.out ha (R0.out _ hn.1)).mono ?_
        rintro e u2 ⟨o5, c5, x5, rfl, hn2, hh⟩
        clear hh hn
        go_wp2_with fail
        refine hK.out _ _ ⟨hn2.1, k0 _ hn2.1⟩ (fun hHeld => ?_)
        clear hK K hHeld
        (try simp only [Act.put, List.setIfInBounds_toArray, List.set_cons_zero, List.set_cons_succ])
        exact T5_7 q7 q12 q17 o1 c1 x1 o2 c2 x2 o3 c3 x3 o4 c4 x4 o5 c5 x5 u2 hn2
    · -- 5 calls, builds 7
      intro q7 q12 q17 o1 c1 x1 o2 c2 x2 o3 c3 x3 o4 c4 x4 o5 c5 x5 u hF
      have hn := hF
      refine wpAnyH_ready (rs := [24]) (by kernel_rfl) (by simp) ?_
      refine (AllReadyH.cons (o := (Go.Oper.mk (some 47) (Go.Op.call (Go.Call.mk (Go.Callee.value (Go.Operand.func 26)) #[Go.Operand.tmp 46] #[23])) 22 _ #[Go.Edge.mk 23 Go.Ground.data, Go.Edge.mk 22 Go.Ground.chain] none)) rfl (fun K hK => ?_) AllReadyH.nil)
      · go_simp
        refine (own_union2 hn (Below.refl _ _) hSab.out hs (TT.out _ hn.1)).mono ?_
        rintro e u2 ⟨o6, c6, x6, rfl, hn2, hh⟩
        clear hh hn
        go_wp2_with fail
        refine hK.out _ _ ⟨hn2.1, k0 _ hn2.1⟩ (fun hHeld => ?_)
        clear hK K hHeld
        (try simp only [Act.put, List.setIfInBounds_toArray, List.set_cons_zero, List.set_cons_succ])
        exact T6_7 q7 q12 q17 o1 c1 x1 o2 c2 x2 o3 c3 x3 o4 c4 x4 o5 c5 x5 o6 c6 x6 u2 hn2
    · -- 6 calls, builds 7
      intro q7 q12 q17 o1 c1 x1 o2 c2 x2 o3 c3 x3 o4 c4 x4 o5 c5 x5 o6 c6 x6 u hF
      have hn := hF
      refine wpAnyH_ready (rs := [28]) (by kernel_rfl) (by simp) ?_
      refine (AllReadyH.cons (o := (Go.Oper.mk (some 51) (Go.Op.call (Go.Call.mk (Go.Callee.value (Go.Operand.func 21)) #[Go.Operand.tmp 50] #[22])) 22 _ #[Go.Edge.mk 27 Go.Ground.data, Go.Edge.mk 24 Go.Ground.chain] none)) rfl (fun K hK => ?_) AllReadyH.nil)
      · go_simp
        refine (own_of hn (Below.refl _ _) hSa.out ha (R0.out _ hn.1)).mono ?_
        rintro e u2 ⟨o7, c7, x7, rfl, hn2, hh⟩
        clear hh hn
        go_wp2_with fail
        refine hK.out _ _ ⟨hn2.1, k0 _ hn2.1⟩ (fun hHeld => ?_)
        clear hK K hHeld
        (try simp only [Act.put, List.setIfInBounds_toArray, List.set_cons_zero, List.set_cons_succ])
        exact T7_7 q7 q12 q17 o1 c1 x1 o2 c2 x2 o3 c3 x3 o4 c4 x4 o5 c5 x5 o6 c6 x6 o7 c7 x7 u2 hn2
    · -- 7 calls, builds 7
      intro q7 q12 q17 o1 c1 x1 o2 c2 x2 o3 c3 x3 o4 c4 x4 o5 c5 x5 o6 c6 x6 o7 c7 x7 u hF
      have hn := hF
      have ba := below_a1 u (.cells #[.slice o1 x1.length c1, .slice o2 x2.length c2, .slice o3 x3.length c3, .slice o4 x4.length c4, .slice o5 x5.length c5, .slice o6 x6.length c6, .slice o7 x7.length c7] 22)
      have bb : Below w1.heap.size w1 _ := (hn.below ba).1
      refine wpAnyH_ready (rs := [29]) (by kernel_rfl) (by simp) ?_
      refine AllReadyH.cons (o := (Go.Oper.mk (some 52) (Go.Op.buildSlice 23 7 #[(0, Go.Operand.tmp 26), (1, Go.Operand.tmp 31), (2, Go.Operand.tmp 36), (3, Go.Operand.tmp 41), (4, Go.Operand.tmp 45), (5, Go.Operand.tmp 47), (6, Go.Operand.tmp 51)]) 23 _ #[Go.Edge.mk 3 Go.Ground.data, Go.Edge.mk 8 Go.Ground.data, Go.Edge.mk 13 Go.Ground.data, Go.Edge.mk 18 Go.Ground.data, Go.Edge.mk 22 Go.Ground.data, Go.Edge.mk 24 Go.Ground.data, Go.Edge.mk 28 Go.Ground.data] none)) rfl (fun K hK => ?_) AllReadyH.nil
      go_simp
      refine hK.out _ _ ⟨bb, k0 _ bb⟩ (fun hHeld => ?_)
      clear hK K
      (try simp only [Act.put, List.setIfInBounds_toArray, List.set_cons_zero, List.set_cons_succ])
      have hE := Lib.hid (hn.all (n := 7) rfl (.cells #[.slice o1 x1.length c1, .slice o2 x2.length c2, .slice o3 x3.length c3, .slice o4 x4.length c4, .slice o5 x5.length c5, .slice o6 x6.length c6, .slice o7 x7.length c7] 22) rfl)
      refine wpAnyH_take (i := 30) (oi := (Go.Oper.mk (some 6) (Go.Op.assign (Go.Operand.tmp 52)) 23 _ #[Go.Edge.mk 29 Go.Ground.data, Go.Edge.mk 28 Go.Ground.chain, Go.Edge.mk 0 Go.Ground.phase, Go.Edge.mk 1 Go.Ground.phase, Go.Edge.mk 2 Go.Ground.phase, Go.Edge.mk 3 Go.Ground.phase, Go.Edge.mk 4 Go.Ground.phase, Go.Edge.mk 5 Go.Ground.phase, Go.Edge.mk 6 Go.Ground.phase, Go.Edge.mk 7 Go.Ground.phase, Go.Edge.mk 8 Go.Ground.phase, Go.Edge.mk 9 Go.Ground.phase, Go.Edge.mk 10 Go.Ground.phase, Go.Edge.mk 11 Go.Ground.phase, Go.Edge.mk 12 Go.Ground.phase, Go.Edge.mk 13 Go.Ground.phase, Go.Edge.mk 14 Go.Ground.phase, Go.Edge.mk 15 Go.Ground.phase, Go.Edge.mk 16 Go.Ground.phase, Go.Edge.mk 17 Go.Ground.phase, Go.Edge.mk 18 Go.Ground.phase, Go.Edge.mk 19 Go.Ground.phase, Go.Edge.mk 20 Go.Ground.phase, Go.Edge.mk 21 Go.Ground.phase, Go.Edge.mk 22 Go.Ground.phase, Go.Edge.mk 23 Go.Ground.phase, Go.Edge.mk 24 Go.Ground.phase, Go.Edge.mk 25 Go.Ground.phase, Go.Edge.mk 26 Go.Ground.phase, Go.Edge.mk 27 Go.Ground.phase, Go.Edge.mk 28 Go.Ground.phase, Go.Edge.mk 29 Go.Ground.phase] none)) (v := ?_) rfl (by kernel_rfl) (by kernel_rfl) (by kernel_rfl) (fun _ _ _ h => h) (Or.inl ⟨by rfl, ?_⟩) hHeld ?_
      rotate_left
      · intro w hSw; (try dsimp only at hSw); go_simp; (try with_reducible rfl)
      simp only [Act.put, List.setIfInBounds_toArray, List.set_cons_zero, List.set_cons_succ]
      refine wpAnyH_done (by kernel_rfl) ?_ _
      clear hHeld hn ba bb
      go_wp2_with fail
      go_meet
      exact hE.out
    --ENDFIRST
  case rest =>
    obtain ⟨ga, l, rfl, hl, hga, hn, hb⟩ := hcut
    rename World => w2
    have M2 := Lib.hid (And.intro hn (And.intro hb (And.intro hl hga)))
    have f2 := k0 w2 hn.1
    clear hn hb hl hga
    go_wp2_with fail
    refine (own_add hSa.out ha (R0.out _ M2.out.1.1)).mono ?_
    rintro e w3 ⟨o8, c8, x8, n8, rfl, f8, b8, s8⟩
    have M3 := Lib.hid (And.intro (M2.out.1.add f8 b8 s8) (heap_keep M2.out.2.1 b8))
    have f3 := k0 w3 M3.out.1.1
    clear f8 b8 s8 f2
    go_wp2_with fail
    refine (own_remove hSa.out ha (R0.out _ M3.out.1.1)).mono ?_
    rintro e w4 ⟨o9, c9, x9, n9, rfl, f9, b9, s9⟩
    have M4 := Lib.hid (And.intro (M3.out.1.add f9 b9 s9) (heap_keep M3.out.2 b9))
    clear f9 b9 s9 f3
    obtain ⟨i0, hi, hz0, hz1, hz2⟩ := info_parts infoRow
    go_wp2_with (at_builtin; refine wpList_append_own _ rfl _ _ _ rfl 0 22 i0 _ 1 24 Try.underlying23 hi hz0 hz1 hz2 rfl (by omega) (.slice (some ⟨ga, 0, none⟩) 7 7) 7 (l.map Prod.fst) rfl (owns_all (by rw [List.length_map]; exact M2.out.2.2.1) (by decide) (heap_keep1 M4.out.2)) ⟨w4.heap.size, 0, none⟩ 2 2 [.slice o8 x8.length c8, .slice o9 x9.length c9] rfl rfl (World.news_of_block (cs := #[.slice o8 x8.length c8, .slice o9 x9.length c9]) (heap_alloc_new _ _)) (by intro u hu; simp at hu; rcases hu with rfl | rfl <;> rfl) (by decide) (by decide) (Nat.zero_le _) ?_; intro v5 w5 hown5 hg5 hx5)
    obtain ⟨g9, cp9, rfl, hA⟩ := all_of (n := 9) (by omega) hown5
    have hN : Nine S w1 w5 (l ++ [(.slice o8 x8.length c8, x8)] ++ [(.slice o9 x9.length c9, x9)]) := (M4.out.1.below (below_a1 _ _)).grown M2.out.2.2.2 (heap_keep1 M4.out.2) rfl hg5
    have hLl : (l ++ [(Value.slice o8 x8.length c8, x8)] ++ [(Value.slice o9 x9.length c9, x9)]).length = 9 := by
      rw [List.length_append, List.length_append, M2.out.2.2.1]; rfl
    have hA2 : AllAt w5 g9 ((l ++ [(Value.slice o8 x8.length c8, x8)] ++ [(Value.slice o9 x9.length c9, x9)]).map Prod.fst) := by simpa using hA
    obtain ⟨L, hL⟩ : ∃ L, l ++ [(Value.slice o8 x8.length c8, x8)] ++ [(Value.slice o9 x9.length c9, x9)] = L := ⟨_, rfl⟩
    rw [hL] at hN hLl hA2
    have M5 := Lib.hid (And.intro hN hA2)
    have HL := Lib.hid hLl
    clear hN hA2 hLl hL hown5 hg5 hx5 hA M4 M3 M2
    go_wp2
    go_loopw [11] (fun i wr => ∃ k : Nat, k ≤ 9 ∧ i = .int .i64 k ∧ Hid (Nine S w1 wr (L.drop k) ∧ AllAt wr g9 (L.map Prod.fst))) (fun i _ => 9 - (intOf i).toNat)
    case atStart => exact ⟨0, by omega, rfl, M5.out⟩
    case round =>
      obtain ⟨k, hk, rfl, HM⟩ := hrel
      by_cases hlt : k < 9
      · obtain ⟨⟨xv, xs⟩, hp⟩ : ∃ p, L[k]? = some p := ⟨L[k]'(by have := HL.out; omega), List.getElem?_eq_getElem _⟩
        have hd := drop_cell hp
        have hN := HM.out.1
        rw [hd] at hN
        have hfr : Fresh w1 wr xv xs := (hN.2.1 _ List.mem_cons_self).1
        have hxl : xs.length ≤ 4194304 := (hN.2.1 _ List.mem_cons_self).2.2
        obtain ⟨xo, xc, rfl⟩ := hfr.shape
        have hz := hfr.zat
        have hap : ¬ Own1 (.slice xo xs.length xc) g9 := fun h => (HM.out.2.apart hN List.mem_cons_self) h
        have hcell : ∀ w', Wr (Own1 (.slice xo xs.length xc)) wr w' → w'.cell? ⟨g9, k, none⟩ = some (.slice xo xs.length xc) := fun w' hw => by
          obtain ⟨cur, _, hc⟩ := HM.out.2.wr hw hap
          exact hc k _ (by rw [List.getElem?_map, hp]; rfl)
        have hkI : (k : Int) < 9 := by omega
        have hk0 : (0 : Int) ≤ (k : Int) := by omega
        have K := Lib.hid (And.intro hN (And.intro hap hp))
        have hc0 := hcell wr (Wr.refl _ _)
        clear hd hN hfr hap hp
        obtain ⟨wo, rfl⟩ : ∃ wo : World, wo = wr := ⟨_, rfl⟩
        go_wp2
        go_loopw [12] (fun i w2 => ∃ m : Nat, m ≤ xs.length ∧ i = .int .i64 m ∧ Hid (Zat w1.heap.size w2 (.slice xo xs.length xc) xs.length ∧ Wr (Own1 (.slice xo xs.length xc)) wo w2)) (fun i _ => xs.length - (intOf i).toNat)
        case atStart => exact ⟨0, Nat.zero_le _, rfl, hz, Wr.refl _ _⟩
        case round =>
          obtain ⟨m, hm, rfl, HZ⟩ := hrel
          have hc1 := hcell _ HZ.out.2
          by_cases hmt : m < xs.length
          · obtain ⟨gx, cx, ex⟩ := HZ.out.1.lt hmt
            simp only [Value.slice.injEq, true_and] at ex
            obtain ⟨rfl, rfl⟩ := ex
            obtain ⟨⟨uu, hu⟩, hfz⟩ := HZ.out.1.cell (g := gx) rfl hmt
            have hmI : (m : Int) < (xs.length : Int) := by omega
            have hm0 : (0 : Int) ≤ (m : Int) := by omega
            go_wp2
            go_roundw
            case rel => exact ⟨m + 1, by omega, by go_num, HZ.out.1.store rfl _, HZ.out.2.setCell (p := ⟨gx, m, none⟩) rfl _⟩
            case measure => simp [intOf]; omega
          · obtain rfl : xs.length = m := by omega
            have Z2 := Lib.hid HZ.out
            clear HZ hm hc0
            go_wp2
            go_loopw [13, 14] (fun z i w3 => ∃ (m : Nat) (zo : Option Addr) (zc : Nat), m ≤ 9 ∧ i = .int .i64 m ∧ z = .slice zo (xs.length + m) zc ∧ Hid (Zat w1.heap.size w3 (.slice zo (xs.length + m) zc) (xs.length + m) ∧ Wr (Own1 (.slice xo xs.length xc)) wo w3 ∧ ∀ g, (Value.slice zo (xs.length + m) zc).ownBlock = some g → Own1 (.slice xo xs.length xc) g ∨ wo.heap.size ≤ g)) (fun _ i _ => 9 - (intOf i).toNat)
            case atStart => exact ⟨0, _, _, by omega, rfl, rfl, Z2.out.1, Z2.out.2, fun g hg => .inl hg⟩
            case round =>
              obtain ⟨m, zo, zc, hm, rfl, rfl, HZ⟩ := hrel
              by_cases hmt : m < 9
              · have hmI : (m : Int) < 9 := by omega
                go_wp2_with (at_builtin; refine wpList_append_z (B := w1.heap.size) _ rfl _ _ rfl _ (xs.length + m) rfl HZ.out.1 (Nat.le_trans K.out.1.1.size HZ.out.2.1.size) (.string ⟨#[98, 101, 104, 105, 110, 100]⟩) rfl rfl (by omega) ?_; intro v6 w6 z6 r6 q6)
                obtain ⟨o6, c6, rfl⟩ := z6.shape
                have Z6 := Lib.hid (show Zat w1.heap.size w6 (.slice o6 (xs.length + (m + 1)) c6) (xs.length + (m + 1)) ∧ Wr (Own1 (.slice xo xs.length xc)) wo w6 ∧ ∀ g, (Value.slice o6 (xs.length + (m + 1)) c6).ownBlock = some g → Own1 (.slice xo xs.length xc) g ∨ wo.heap.size ≤ g from ⟨z6, r6 _ _ HZ.out.2.1 HZ.out.2.2, fun g hg => (q6 g hg).elim (HZ.out.2.2 g) fun h => .inr (Nat.le_trans HZ.out.2.1.size h)⟩)
                clear z6 r6 q6
                go_wp2
                go_roundw
                case rel => exact ⟨m + 1, o6, c6, by omega, by go_num, rfl, Z6.out⟩
                case measure => simp [intOf]; omega
              · obtain rfl : m = 9 := by omega
                have Z3 := Lib.hid HZ.out.2.1
                clear HZ Z2
                rename World => wz
                have KN := Lib.hid (K.out.1.rest Z3.out)
                have KA := Lib.hid (HM.out.2.wr Z3.out K.out.2.1)
                go_wp2
                go_loop [15] (fun i => ∃ j : Nat, k + 1 ≤ j ∧ j ≤ 9 ∧ i = .int .i64 j) (fun i => 9 - (intOf i).toNat)
                case atStart => exact ⟨k + 1, by omega, by omega, by go_num⟩
                case round =>
                  obtain ⟨j, hkj, hj, rfl⟩ := hrel
                  by_cases hjt : j < 9
                  · obtain ⟨⟨yv, ys⟩, hy⟩ : ∃ p, L[j]? = some p := ⟨L[j]'(by have := HL.out; omega), List.getElem?_eq_getElem _⟩
                    have hyd : (yv, ys) ∈ L.drop (k + 1) := List.mem_of_getElem? (i := j - (k + 1)) (by rw [List.getElem?_drop, show k + 1 + (j - (k + 1)) = j by omega]; exact hy)
                    have hyf : Fresh w1 wz yv ys := (KN.out.2.1 _ hyd).1
                    have hys : ∀ x ∈ ys, x ∈ a ∨ x ∈ b := fun x hx => hSc.out x ((KN.out.2.1 _ hyd).2.1 x hx)
                    have hyl : ys.length ≤ 4194304 := (KN.out.2.1 _ hyd).2.2
                    obtain ⟨yo, yc, rfl, hyc⟩ := hyf.trow.open
                    have hyg : wz.cell? ⟨g9, j, none⟩ = some (.slice yo ys.length yc) := by
                      obtain ⟨cur, _, hc⟩ := KA.out
                      exact hc j _ (by rw [List.getElem?_map, hy]; rfl)
                    have KY := Lib.hid (And.intro hys hyc)
                    have hjI : (j : Int) < 9 := by omega
                    have hj0 : (0 : Int) ≤ (j : Int) := by omega
                    clear hy hyd hyf hys hyc
                    go_wp2
                    go_loop [16] (fun i => ∃ q : Nat, q ≤ ys.length ∧ i = .int .i64 q) (fun i => ys.length - (intOf i).toNat)
                    case atStart => exact ⟨0, Nat.zero_le _, rfl⟩
                    case round =>
                      obtain ⟨q, hq, rfl⟩ := hrel
                      by_cases hqt : q < ys.length
                      · obtain ⟨t, ht⟩ : ∃ t, ys[q]? = some t := ⟨ys[q], List.getElem?_eq_getElem hqt⟩
                        rcases KY.out.2 with h0 | ⟨gy, offy, rfl, hgy, hcy⟩
                        · rw [h0] at hqt; exact absurd hqt (Nat.not_lt_zero _)
                        have hcq := hcy q t ht
                        have hta := KY.out.1 t (List.mem_of_getElem? ht)
                        have hqI : (q : Int) < (ys.length : Int) := by omega
                        have hq0 : (0 : Int) ≤ (q : Int) := by omega
                        have KT := Lib.hid hta
                        clear hcy ht hta
                        by_cases he : t = spoiltT
                        · have hb1 : (str t).toList = [115, 112, 111, 105, 108, 116] := by rw [strList]; exact he
                          have KT2 : Hid (spoiltT ∈ a ∨ spoiltT ∈ b) := by rw [← he]; exact KT.out
                          clear he KT
                          have hwz : Below w.heap.size w wz := below_thru KN.out.1 M1.out.2.1
                          have TA := Lib.hid (And.intro (H.out.1.kept hwz) (H.out.2.kept hwz))
                          clear hwz
                          by_cases hia : spoiltT ∈ a
                          · have HA := Lib.hid hia
                            clear hia
                            go_wp2_with fail
                            refine (has_yes HA.out _ (by omega) _ TA.out.1).mono ?_
                            rintro e w8 ⟨rfl, rfl⟩
                            go_wp2
                            go_round
                            case rel => exact ⟨q + 1, by omega, by go_num⟩
                            case measure => simp [intOf]; omega
                          · have HA := Lib.hid hia
                            clear hia
                            go_wp2_with fail
                            refine (has_no HA.out _ (by omega) _ TA.out.1).mono ?_
                            rintro e w8 ⟨rfl, rfl⟩
                            go_wp2_with fail
                            refine (has_yes (KT2.out.resolve_left HA.out) _ (by omega) _ TA.out.2).mono ?_
                            rintro e w8 ⟨rfl, rfl⟩
                            go_wp2
                            go_round
                            case rel => exact ⟨q + 1, by omega, by go_num⟩
                            case measure => simp [intOf]; omega
                        · have hb1 : ¬ (str t).toList = [115, 112, 111, 105, 108, 116] := by rw [strList]; exact he
                          clear he KT
                          go_wp2
                          go_round
                          case rel => exact ⟨q + 1, by omega, by go_num⟩
                          case measure => simp [intOf]; omega
                      · obtain rfl : ys.length = q := by omega
                        go_wp2
                        go_round
                        case rel => exact ⟨j + 1, by omega, by omega, by go_num⟩
                        case measure => simp [intOf]; omega
                  · obtain rfl : j = 9 := by omega
                    go_wp2
                    go_roundw
                    case rel => exact ⟨k + 1, by omega, by go_num, KN.out, KA.out⟩
                    case measure => simp [intOf]; omega
      · obtain rfl : k = 9 := by omega
        have hB1 : Below w1.heap.size w1 wr := HM.out.1.1
        have hBw : Below w.heap.size w wr := below_thru hB1 M1.out.2.1
        have KB := Lib.hid (And.intro hB1 hBw)
        have TW : Hid (TwinsAt (w0.alloc (.cells #[.slice a1 a.length c1, .slice a2 b.length c2] 22)) wr (.slice (some ⟨g, 0, none⟩) 2 cp) [a, b]) := M1.out.1.kept hB1
        clear hB1 hBw HM
        go_wp2_with fail
        refine (kept_any [a, b] _ _ hrs.out (by simp) _ _ (TW.out.kept ((Below.refl _ _).alloc (Nat.le_refl _) _)) (laid_two (H.out.1.kept KB.out.2) (H.out.2.kept KB.out.2) _ rfl)).mono ?_
        rintro e w8 ⟨rfl, m8, rfl⟩
        have B8 : Hid (Below wr.heap.size wr ((wr.alloc (.cells #[.slice a1 a.length c1, .slice a2 b.length c2] 22)).drewN m8)) := below_drewN (below_alloc (Below.refl _ _) _) m8
        obtain ⟨w8, h8⟩ : ∃ w8, (wr.alloc (.cells #[.slice a1 a.length c1, .slice a2 b.length c2] 22)).drewN m8 = w8 := ⟨_, rfl⟩
        rw [h8] at B8 ⊢
        clear h8
        have B18 := Lib.hid (below_thru B8.out KB.out.1)
        have f8 := k0 w8 B18.out
        go_wp2_with fail
        refine (mOf_any a _ (by omega) _ (R0.out _ B18.out)).mono ?_
        rintro e w9 ⟨x9, rfl, n9, b9⟩
        obtain ⟨o9, d9, rfl⟩ := n9.shape
        have M9 := Lib.hid (And.intro n9 b9)
        clear n9 b9
        have B9 := Lib.hid (below_thru M9.out.2 (below_thru B8.out KB.out.2))
        go_wp2_with fail
        refine (refOf_any a _ (by omega) _ (H.out.1.kept B9.out)).mono ?_
        rintro e wx ⟨xx, rfl, nx, bx⟩
        obtain ⟨ox, dx, rfl⟩ := nx.shape
        have MX := Lib.hid (And.intro nx bx)
        clear nx bx
        have BX := Lib.hid (below_thru MX.out.2 B9.out)
        have hal := Pl.ofS_length a
        go_wp2_with fail
        refine (same_true (Pl.ofS a) _ _ (by omega) _ (M9.out.1.trow.kept MX.out.2) MX.out.1.fresh.trow).mono ?_
        rintro e wy ⟨rfl, my, rfl⟩
        go_wp2
        go_ret
        exact ⟨rfl, below_drewN BX.out my⟩
theorem membersOwn_walk (v0 : Value) (bs0 : List ByteArray) (h0 : bulkS bs0 ≤ 1048576) (v1 : Value) (bs1 : List ByteArray) (h1 : bulkS bs0 + bulkS bs1 ≤ 1048576) (w : World) (s0 : SRow w v0 bs0) (s1 : SRow w v1 bs1) :
    Calls Try.prog 8 #[v0, v1] w fun e w' => e = .returned (.bool true) ∧ Below w.heap.size w w' := by
  have n0 := bulkS_length bs0
  have n1 := bulkS_length bs1
  exact own_up v0 v1 (texts bs0) (texts bs1) (by rw [texts_length, texts_length]; omega) w (TRow.of s0) (TRow.of s1)
end Go.Proofs.Ytjceoigekifgdaa
