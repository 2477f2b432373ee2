/- A row of bytes that grows, and slices laid beside it: for regions that draw their order. -/
import Derived.Test.YtpngmbdchceikaaDoorBuild2
import Derived.Lib.AppendStr
import Derived.Maps.AppendAt
namespace Go.Proofs.YtpngmbdchceikaaDoor
open Go.ChangeShapes Go.WideShapes Go.ChangeAt Go.RowKit
set_option linter.unusedVariables false

/-- v owns the bytes l in W; W is w0 below B, and spares what w1 has but bytes and builders; ns: slices of bytes that lie in blocks of their own (st: in none that v owns). -/
structure Bag (B : Nat) (w0 w1 W : World) (v : Value) (l : List UInt8) (st : Bool) (ns : List (Nat × List UInt8)) : Prop where
  own : W.ownsRow B 5 1 v l.length (Lib.byteCells l)
  bel : Below B w0 W
  base : B ≤ w0.heap.size
  spr : Spares w1 W
  news : ∀ p ∈ ns, p.1 < W.heap.size ∧ (st = true → v.ownBlock ≠ some p.1) ∧ ∀ j u, (Lib.byteCells p.2)[j]? = some u → W.cell? ⟨p.1, j, none⟩ = some u
section
variable {B : Nat} {w0 w1 W : World} {v : Value} {l : List UInt8} {st : Bool} {ns : List (Nat × List UInt8)}
theorem Bag.forget (h : Bag B w0 w1 W v l st ns) : Bag B w0 w1 W v l true [] := ⟨h.own, h.bel, h.base, h.spr, fun _ hm => by cases hm⟩
theorem Bag.from1 (h : Bag B w0 w1 W v l st ns) {w2 : World} (hs : Spares w2 w1) : Bag B w0 w2 W v l st ns := ⟨h.own, h.bel, h.base, hs.trans h.spr, h.news⟩
theorem Bag.below {W' : World} (h : Below W.heap.size W W') (k : Below B w0 W) (hB : B ≤ w0.heap.size) : Below B w0 W' := k.trans (h.mono (Nat.le_trans hB k.size))
theorem Bag.later {W' : World} (h : Bag B w0 w1 W v l st ns) (hb : Below W.heap.size W W') : Bag B w0 w1 W' v l st ns :=
  ⟨h.own.kept (row := none) ⟨hb.os, hb.tape, hb.output, hb.size, fun k hk _ => hb.block k hk⟩ (by cases hv : v.ownBlock <;> simp), Bag.below hb h.bel h.base, h.base, h.spr.trans (Spares.below hb),
    fun p hm => ⟨Nat.lt_of_lt_of_le (h.news p hm).1 hb.size, (h.news p hm).2.1, fun j u hj => (hb.cell (h.news p hm).1).trans ((h.news p hm).2.2 j u hj)⟩⟩
theorem Bag.drew (h : Bag B w0 w1 W v l st ns) : Bag B w0 w1 W.drew v l st ns := h.later (Below.refl _ _).drew
theorem Bag.build (h : Bag B w0 w1 W v l st ns) (cs : List UInt8) (arr : Array Value) (ha : arr = (Lib.byteCells cs).toArray) : Bag B w0 w1 (W.alloc (.cells arr 5)) v l st ((W.heap.size, cs) :: ns) := by
  subst ha
  have hb : Below W.heap.size W (W.alloc (.cells (Lib.byteCells cs).toArray 5)) := (Below.refl _ _).alloc (Nat.le_refl _) _
  have h2 := h.later hb
  refine ⟨h2.own, h2.bel, h2.base, h2.spr, fun p hm => ?_⟩
  rcases List.mem_cons.1 hm with rfl | hm
  · refine ⟨by simp, fun _ e => by have := (h.own.lt _ e).2; omega, fun j u hj => ?_⟩
    have hg : (W.alloc (.cells (Lib.byteCells cs).toArray 5)).heap[W.heap.size]? = some (.cells (Lib.byteCells cs).toArray 5 (0, 0)) := heap_alloc_new W _
    rw [cell_of_row _ _ j _ _ _ hg]
    simpa using hj
  · exact h2.news p hm
/-- What an append leaves. -/
theorem Bag.grown {W' : World} {v' : Value} {cs : List UInt8} (h : Bag B w0 w1 W v l st ns) (hown : W'.ownsRow B 5 1 v' (l ++ cs).length (Lib.byteCells (l ++ cs))) (hg : W.grownBy W' v.ownBlock) : Bag B w0 w1 W' v' (l ++ cs) true [] :=
  ⟨hown, h.bel.grown hg (Nat.le_trans h.base h.bel.size) (fun k hk => (h.own.lt k hk).1), h.base, h.spr.trans (Spares.grown h.own hg), fun _ hm => by cases hm⟩
theorem Bag.grown2 {W' : World} {v' : Value} {cs : List UInt8} {st' : Bool} (h : Bag B w0 w1 W v l true ns) (hown : W'.ownsRow B 5 1 v' (l ++ cs).length (Lib.byteCells (l ++ cs))) (hg : W.grownBy W' v.ownBlock)
    (hat : st' = true → v'.ownBlock = v.ownBlock ∨ v'.ownBlock = some W.heap.size) : Bag B w0 w1 W' v' (l ++ cs) st' ns := by
  have h1 := h.grown hown hg
  refine ⟨h1.own, h1.bel, h1.base, h1.spr, fun p hm => ?_⟩
  obtain ⟨a1, a2, a3⟩ := h.news p hm
  refine ⟨Nat.lt_of_lt_of_le a1 hg.size, fun e e2 => ?_, fun j u hj => hg.cell (a3 j u hj) fun e => a2 rfl e.symm⟩
  rcases hat e with e3 | e3
  · exact a2 rfl (e3.symm.trans e2)
  · rw [e3] at e2; injection e2 with e2; omega
end
section
variable {B : Nat} {w0 w1 W : World} {v : Value} {l : List UInt8} {st : Bool} {ns : List (Nat × List UInt8)}
variable {rest : List Oper} {ops : Array Oper} {o : Oper} {a : Act} {K : Act → World → Prop} {Q : Exit → Act → World → Prop}
theorem bag_app (h : Bag B w0 w1 W v l true ns) (s x : Operand) (ho : o.op = .call { callee := .builtin .append, args := #[s, x], argTypes := #[61, 61] }) (hs : a.eval s = v)
    (g : Nat) (cs : List UInt8) (c : Nat) (hx : a.eval x = .slice (some ⟨g, 0, none⟩) cs.length c) (hm : (g, cs) ∈ ns) (hlen : (l ++ cs).length ≤ 140737488355328)
    (hK : ∀ v' W', Bag B w0 w1 W' v' (l ++ cs) true ns → K (a.put o.dst v') W') : o.wp Tryd.prog a W K Q := by
  obtain ⟨i, hi, hz, hsz, hby⟩ := info_parts byteInf
  rw [List.length_append] at hlen
  obtain ⟨v', w', hr, h2, h3, h4, h5⟩ := run_append_own_at (P := Tryd.prog) W B 61 o.type 5 i _ 1 1 Tryd.underlying61 hi hz hsz hby rfl (by omega) v _ _ h.own ⟨g, 0, none⟩ cs.length c (Lib.byteCells cs) (by simp [Lib.byteCells_length])
    (fun j u hj => by
      have hadd : (⟨g, 0, none⟩ : Addr).add j = ⟨g, j, none⟩ := by unfold Addr.add; split <;> simp_all
      rw [hadd]; exact (h.news _ hm).2.2 j u hj) (by intro u hu; simp only [Lib.byteCells, List.mem_map] at hu; obtain ⟨_, _, rfl⟩ := hu; rfl) (by unfold maxLen; omega) (by omega) (Nat.le_trans h.base h.bel.size)
  unfold Oper.wp execOp
  simp only [ho, resolve, invoke, builtin, Sem.run_bind, Sem.run_pure, Result.andThen_ok, List.map_toArray, List.map_cons, List.map_nil, hs, hx, hr]
  refine hK v' w' (h.grown2 ?_ h3 fun _ => h5)
  rw [List.length_append, show Lib.byteCells (l ++ cs) = Lib.byteCells l ++ Lib.byteCells cs by simp [Lib.byteCells]]
  exact h2
theorem bag_last (h : Bag B w0 w1 W v l st ns) (s x : Operand) (ho : o.op = .call { callee := .builtin .append, args := #[s, x], argTypes := #[61, 61] }) (hs : a.eval s = v)
    (g : Nat) (cs : List UInt8) (c : Nat) (hx : a.eval x = .slice (some ⟨g, 0, none⟩) cs.length c) (hm : (g, cs) ∈ ns) (hlen : (l ++ cs).length ≤ 140737488355328)
    (hK : ∀ v' W', Bag B w0 w1 W' v' (l ++ cs) true [] → K (a.put o.dst v') W') : o.wp Tryd.prog a W K Q := by
  obtain ⟨i, hi, hz, hsz, hby⟩ := info_parts byteInf
  rw [List.length_append] at hlen
  obtain ⟨v', w', hr, h2, h3, h4, h5⟩ := run_append_own_at (P := Tryd.prog) W B 61 o.type 5 i _ 1 1 Tryd.underlying61 hi hz hsz hby rfl (by omega) v _ _ h.own ⟨g, 0, none⟩ cs.length c (Lib.byteCells cs) (by simp [Lib.byteCells_length])
    (fun j u hj => by
      have hadd : (⟨g, 0, none⟩ : Addr).add j = ⟨g, j, none⟩ := by unfold Addr.add; split <;> simp_all
      rw [hadd]; exact (h.news _ hm).2.2 j u hj) (by intro u hu; simp only [Lib.byteCells, List.mem_map] at hu; obtain ⟨_, _, rfl⟩ := hu; rfl) (by unfold maxLen; omega) (by omega) (Nat.le_trans h.base h.bel.size)
  unfold Oper.wp execOp
  simp only [ho, resolve, invoke, builtin, Sem.run_bind, Sem.run_pure, Result.andThen_ok, List.map_toArray, List.map_cons, List.map_nil, hs, hx, hr]
  refine hK v' w' (h.grown ?_ h3)
  rw [List.length_append, show Lib.byteCells (l ++ cs) = Lib.byteCells l ++ Lib.byteCells cs by simp [Lib.byteCells]]
  exact h2
theorem bag_str (h : Bag B w0 w1 W v l true ns) (s x : Operand) (ho : o.op = .call { callee := .builtin .append, args := #[s, x], argTypes := #[61, 9] }) (hs : a.eval s = v)
    (S : ByteArray) (cs : List UInt8) (hS : S.data.toList = cs) (hx : a.eval x = .string S) (hlen : (l ++ cs).length ≤ 140737488355328)
    (hK : ∀ v' W', Bag B w0 w1 W' v' (l ++ cs) false ns → K (a.put o.dst v') W') : o.wp Tryd.prog a W K Q := by
  subst hS
  obtain ⟨i, hi, hz, hsz, hby⟩ := info_parts byteInf
  have hSl : S.data.toList.length = S.size := by simp
  rw [List.length_append, hSl] at hlen
  obtain ⟨v', w', hr, h2, h3, h4⟩ := Lib.run_append_own_string (P := Tryd.prog) W B 61 9 o.type 5 i Tryd.underlying61 Tryd.underlying9 hi hz hsz hby v _ _ h.own S (by unfold maxLen; omega) (by omega) (Nat.le_trans h.base h.bel.size)
  unfold Oper.wp execOp
  simp only [ho, resolve, invoke, builtin, Sem.run_bind, Sem.run_pure, Result.andThen_ok, List.map_toArray, List.map_cons, List.map_nil, hs, hx, hr]
  refine hK v' w' (h.grown2 ?_ h3 fun e => by cases e)
  rw [List.length_append, hSl, show Lib.byteCells (l ++ S.data.toList) = Lib.byteCells l ++ Lib.strCells S by simp [Lib.byteCells, Lib.strCells]]
  exact h2
theorem bagL_last (hgd : o.guard = none) (h : Bag B w0 w1 W v l st ns) (s x : Operand) (ho : o.op = .call { callee := .builtin .append, args := #[s, x], argTypes := #[61, 61] }) (hs : a.eval s = v)
    (g : Nat) (cs : List UInt8) (c : Nat) (hx : a.eval x = .slice (some ⟨g, 0, none⟩) cs.length c) (hm : (g, cs) ∈ ns) (hlen : (l ++ cs).length ≤ 140737488355328)
    (hK : ∀ v' W', Bag B w0 w1 W' v' (l ++ cs) true [] → wpList Tryd.prog ops Q rest (a.put o.dst v') W') : wpList Tryd.prog ops Q (o :: rest) a W :=
  wpList_plain hgd fun _ hk => bag_last h s x ho hs g cs c hx hm hlen fun v' W' hb => hk _ _ (hK v' W' hb)
theorem bagL_str (hgd : o.guard = none) (h : Bag B w0 w1 W v l true ns) (s x : Operand) (ho : o.op = .call { callee := .builtin .append, args := #[s, x], argTypes := #[61, 9] }) (hs : a.eval s = v)
    (S : ByteArray) (cs : List UInt8) (hS : S.data.toList = cs) (hx : a.eval x = .string S) (hlen : (l ++ cs).length ≤ 140737488355328)
    (hK : ∀ v' W', Bag B w0 w1 W' v' (l ++ cs) false ns → wpList Tryd.prog ops Q rest (a.put o.dst v') W') : wpList Tryd.prog ops Q (o :: rest) a W :=
  wpList_plain hgd fun _ hk => bag_str h s x ho hs S cs hS hx hlen fun v' W' hb => hk _ _ (hK v' W' hb)
end
end Go.Proofs.YtpngmbdchceikaaDoor
