/- Rows of bytes: a text copied into one; a row that make gave; one byte appended to a row with room of any kind. -/
import Derived.Test.YtgdebcpnihibjaaDoorBRow
import Derived.Laws.CopyRow
import Derived.ArgAppend
namespace Go.Proofs.YtgdebcpnihibjaaDoor
open Go.ChangeShapes Go.WideShapes Go.ChangeAt Go.RowKit
set_option linter.unusedVariables false

theorem u8inf : (Tryd.prog.info? 5).map (fun i => (i.zero, i.size, i.bytes)) = some (some (.int .u8 0), 1, 1) := by kernel_rfl
theorem u8size : (Tryd.prog.info? 5).map (·.size) = some 1 := by kernel_rfl
/-- A text laid over a row from place off on. -/
def layO (f : Nat → UInt8) (off : Nat) (l : List UInt8) : Nat → UInt8 := fun j => if off ≤ j ∧ j < off + l.length then l.getD (j - off) 0 else f j
theorem layO_cons (f : Nat → UInt8) (off : Nat) (b : UInt8) (l : List UInt8) (j : Nat) : layO (fun k => if k = off then b else f k) (off + 1) l j = layO f off (b :: l) j := by
  unfold layO
  simp only [List.length_cons]
  by_cases h0 : j = off
  · subst h0
    rw [if_neg (by omega), if_pos rfl, if_pos (by omega), Nat.sub_self]; rfl
  · by_cases h1 : off + 1 ≤ j ∧ j < off + 1 + l.length
    · rw [if_pos h1, if_pos (by omega), show j - off = (j - (off + 1)) + 1 by omega, List.getD_cons_succ]
    · rw [if_neg h1, if_neg h0, if_neg (by omega)]

theorem run_storeBytes {P : Program} {g n : Nat} : ∀ (l : List UInt8) (off i : Nat) (w : World) (f : Nat → UInt8), BRow w g n f → off + i + l.length ≤ n →
    ∃ w', (storeCells ⟨g, off, none⟩ (l.map fun b => .int .u8 (b.toNat : Int)) i).run P w = .ok () w' ∧ BRow w' g n (layO f (off + i) l) ∧ w'.heap.size = w.heap.size ∧ ∀ (W : World) (B : Nat), Below B W w → B ≤ g → Below B W w'
  | [], off, i, w, f, h, _ => ⟨w, rfl, h.congr fun j _ => by unfold layO; rw [if_neg (by simp only [List.length_nil]; omega)], rfl, fun W B hb _ => hb⟩
  | b :: l, off, i, w, f, h, hl => by
    have hi : off + i < n := by simp at hl; omega
    have hadd : (⟨g, off, none⟩ : Addr).add i = ⟨g, off + i, none⟩ := by unfold Addr.add; split <;> simp_all
    have hst : (store ((⟨g, off, none⟩ : Addr).add i) (.int .u8 (b.toNat : Int))).run P w = .ok () (w.setCell ⟨g, off + i, none⟩ (.int .u8 (b.toNat : Int))) := by
      rw [hadd, run_store P w _ _ _ rfl, h.cell hi]
      simp [h.frozen hi]
    obtain ⟨w', e, r, hz, bl⟩ := run_storeBytes (P := P) l off (i + 1) _ _ (h.set (off + i) b) (by simp at hl; omega)
    refine ⟨w', ?_, r.congr fun j _ => by rw [← Nat.add_assoc, layO_cons], by rw [hz]; simp [World.setCell], fun W B hb hB => bl W B (hb.setCell hB _) hB⟩
    simp only [List.map_cons, storeCells, Sem.run_bind, hst, Result.andThen_ok, e]

section
variable {P : Program} {ops : Array Oper} {rest : List Oper} {o : Oper} {a : Act} {Q : Exit → Act → World → Prop}
/-- 'copy(b[off:], t)', t a text that fits. -/
theorem wpList_copy_text {w : World} (hgd : o.guard = none) (d s : Operand) (dT sT : TypeId) (ho : o.op = .call { callee := .builtin .copy, args := #[d, s], argTypes := #[dT, sT] }) (e : TypeId) (hu : P.underlying dT = some (.slice e)) (hsz : (P.info? e).map (·.size) = some 1)
    (g off dLen dCap n : Nat) (t : ByteArray) (f : Nat → UInt8) (hrow : BRow w g n f) (hd : a.eval d = .slice (some ⟨g, off, none⟩) dLen dCap) (hs : a.eval s = .string t) (hfit : t.size ≤ dLen) (hn : off + t.size ≤ n)
    (h : ∀ w', BRow w' g n (layO f off t.data.toList) → w'.heap.size = w.heap.size → (∀ (W : World) (B : Nat), Below B W w → B ≤ g → Below B W w') → wpList P ops Q rest (a.put o.dst (goInt t.size)) w') : wpList P ops Q (o :: rest) a w := by
  refine wpList_plain hgd fun K hK => ?_
  obtain ⟨w', e1, r, hz, bl⟩ := run_storeBytes (P := P) t.data.toList off 0 w f hrow (by simpa using hn)
  have hmin : Nat.min t.size dLen = t.size := Nat.min_eq_left hfit
  have hex : (t.extract 0 t.size) = t := by simp
  have hrun : (Builtin.copy_ #[dT, sT] o.type #[.slice (some ⟨g, off, none⟩) dLen dCap, .string t]).run P w = .ok (goInt t.size) w' := by
    cases hq : P.info? e with
    | none => simp [hq] at hsz
    | some i =>
      have htk : List.take t.size (t.data.toList.map fun b => Value.int IntKind.u8 ↑b.toNat) = t.data.toList.map fun b => Value.int IntKind.u8 ↑b.toNat := List.take_of_length_le (by simp)
      simp [Builtin.copy_, run_underlying hu, Builtin.lenOf, Builtin.firstCells, sizeOf, typeInfo, hq, hmin, htk, e1]
  unfold Oper.wp
  simp [execOp, ho, resolve, invoke, builtin, hd, hs, hrun, Result.andThen]
  exact hK _ _ (h w' (by simpa using r) hz bl)
end

/-- A row that make gave. -/
theorem brow_made (w : World) (n : Nat) : BRow (w.alloc (.cells (madeCells #[.int .u8 0] n) 5)) w.heap.size n (fun _ => 0) := by
  obtain ⟨c, hb, hs, hc⟩ := World.rowIs_made w (.int .u8 0) n 5
  exact ⟨c, _, 0, 0, hb, .inr ⟨rfl, rfl⟩, fun i hi => by rw [hc i hi]; rfl⟩
section
variable {ops : Array Oper} {rest : List Oper} {o : Oper} {a : Act} {Q : Exit → Act → World → Prop}
/-- 'make([]byte, m)'. -/
theorem wpList_make_bytes {w : World} (hgd : o.guard = none) (l c : Operand) (t : TypeId) (ho : o.op = .makeSlice t l c) (ht : Tryd.prog.underlying t = some (.slice 5)) (kl kc : IntKind) (m : Int) (hl : a.eval l = .int kl m) (hc : a.eval c = .int kc m) (n : Nat) (hn : n ≤ 281474976710656) (hm : m = (n : Int))
    (h : ∀ w', BRow w' w.heap.size n (fun _ => 0) → w'.heap.size = w.heap.size + 1 → (∀ (W : World) (B : Nat), Below B W w → B ≤ w.heap.size → Below B W w') → wpList Tryd.prog ops Q rest (a.put o.dst (.slice (some ⟨w.heap.size, 0, none⟩) n n)) w') :
    wpList Tryd.prog ops Q (o :: rest) a w := by
  refine wpList_plain hgd fun K hK => ?_
  subst hm
  have hrun := run_make_row' (P := Tryd.prog) t 5 (.int .u8 0) 1 ht u8inf rfl kl kc n (by omega) (by omega) w
  unfold Oper.wp
  simp [execOp, ho, hl, hc, hrun, Result.andThen]
  exact hK _ _ (h _ (brow_made w n) (by simp) (fun W B hb hB => hb.alloc hB _))
end
theorem layO_zero (s : ByteArray) (i : Nat) : layO (fun _ => 0) 0 s.data.toList i = byteAt s i := by
  unfold layO byteAt
  by_cases h : i < s.size
  · rw [if_pos (by simpa using h), Nat.sub_zero]
  · rw [if_neg (by simpa using h), List.getD_eq_getElem?_getD, List.getElem?_eq_none (by simpa using h)]; rfl

/-- A slice of n bytes in memory from block B on, with room of any kind. -/
def BZ (B : Nat) (w : World) (v : Value) (n : Nat) (f : Nat → UInt8) : Prop :=
  ∃ g cap cs t lo hi, v = .slice (some ⟨g, 0, none⟩) n cap ∧ B ≤ g ∧ w.heap[g]? = some (.cells cs t (lo, hi)) ∧ (lo ≥ cap ∨ (lo = 0 ∧ hi = 0)) ∧ n ≤ cap ∧ cap ≤ cs.size ∧ ∀ i, i < n → cs[i]? = some (.int .u8 ((f i).toNat : Int))
namespace BZ
variable {B n : Nat} {w : World} {v : Value} {f : Nat → UInt8}
theorem brow (h : BZ B w v n f) : ∃ g cap, v = .slice (some ⟨g, 0, none⟩) n cap ∧ B ≤ g ∧ BRow w g n f := by
  obtain ⟨g, cap, cs, t, lo, hi, e, h1, h2, h3, h4, h5, h6⟩ := h
  exact ⟨g, cap, e, h1, cs, t, lo, hi, h2, h3.imp (fun h => by omega) id, h6⟩
theorem congr (h : BZ B w v n f) {f' : Nat → UInt8} (e : ∀ i, i < n → f i = f' i) : BZ B w v n f' := by
  obtain ⟨g, cap, cs, t, lo, hi, e1, h1, h2, h3, h4, h5, h6⟩ := h
  exact ⟨g, cap, cs, t, lo, hi, e1, h1, h2, h3, h4, h5, fun i hi => by rw [h6 i hi, e i hi]⟩
end BZ
/-- '[]byte(s)' of a text. -/
theorem bz_of_text {P : Program} (w : World) (src dst e : TypeId) (s : ByteArray) (hs : P.underlying src = some .string) (hd : P.underlying dst = some (.slice e)) (he : P.underlying e = some (.int .u8)) :
    ∃ ao cap w1, (convert src dst (.string s)).run P w = .ok (.slice ao s.size cap) w1 ∧ BZ w.heap.size w1 (.slice ao s.size cap) s.size (byteAt s) ∧ Below w.heap.size w w1 := by
  refine ⟨_, _, _, run_bytes_of_string w src dst e s hs hd he, ⟨_, _, _, _, _, _, rfl, Nat.le_refl _, heap_alloc_new _ _, Or.inl ?_, grownCap_ge w s.size 0 e, ?_, fun i hi => ?_⟩, (Below.refl _ _).drew.alloc (Nat.le_refl _) _⟩
  · have := grownCap_ge w s.size 0 e
    simp only [bytesRow, Array.size_append, Array.size_map, Array.size_replicate]
    show s.data.size + _ ≥ _
    have : s.data.size = s.size := rfl
    omega
  · have := grownCap_ge w s.size 0 e
    simp only [bytesRow, Array.size_append, Array.size_map, Array.size_replicate]
    have : s.data.size = s.size := rfl
    omega
  · rw [byteAt_eq s hi]
    have hd' : i < s.data.size := hi
    simp only [bytesRow]
    rw [Array.getElem?_append_left (by simpa using hd'), Array.getElem?_map, Array.getElem?_eq_getElem hd']
    rfl
section
variable {ops : Array Oper} {rest : List Oper} {o : Oper} {a : Act} {Q : Exit → Act → World → Prop}
/-- 'b = append(b, 0)', whatever room b has. -/
theorem wpList_append_bz {B : Nat} (w : World) (hgd : o.guard = none) (s x : Operand) (t : TypeId) (ht : Tryd.prog.underlying t = some (.slice 5)) (ho : o.op = .call { callee := .builtin .append, args := #[s, x], argTypes := #[t, t] })
    (v : Value) (n : Nat) (f : Nat → UInt8) (hs : a.eval s = v) (hz : BZ B w v n f) (hB : B ≤ w.heap.size) (u : UInt8) (hx : a.eval x = .slice (some ⟨w.heap.size, 0, none⟩) 1 1) (hn : n + 1 ≤ 140737488355328)
    (h : ∀ v' w', BZ B w' v' (n + 1) (fun i => if i = n then u else f i) → (∀ (W : World), Below B W w → Below B W w') → wpList Tryd.prog ops Q rest (a.put o.dst v') w') :
    wpList Tryd.prog ops Q (o :: rest) a (w.alloc (.cells #[.int .u8 (u.toNat : Int)] 5)) := by
  obtain ⟨i, hi, hzr, hsz, hby⟩ := info_parts u8inf
  obtain ⟨g, cap, cs, ty, lo, hi', rfl, hg, hb, hfr, hnc, hcc, hcs⟩ := hz
  have hglt := (Array.getElem?_eq_some_iff.1 hb).1
  have hb2 : (w.alloc (.cells #[.int .u8 (u.toNat : Int)] 5)).heap[g]? = some (.cells cs ty (lo, hi')) := (Below.heap_alloc _ _ _ hglt).trans hb
  have cellk : ∀ k, (w.alloc (.cells #[.int .u8 (u.toNat : Int)] 5)).cell? ⟨g, k, none⟩ = cs[k]? := fun k => by
    simp only [World.cell?, hb2]
    simp
  refine wpList_append_arg _ hgd s x t ho 5 i _ 1 1 ht hi hzr hsz hby rfl (by omega) g 0 n cap (cs.toList.take n) hs (by rw [List.length_take, Array.length_toList]; omega) (fun j y hy => ?_) ⟨w.heap.size, 0, none⟩ 1 1 [.int .u8 (u.toNat : Int)] hx rfl (cell_one_new _ _ _) (by simp [Value.oneCell']) (fun hr j hj => ?_) (by simp only [maxLen]; omega) (by omega) (fun hr => ?_) (fun hr v' w' hown hgr => ?_)
  · have hj : j < n := by have := (List.getElem?_eq_some_iff.1 hy).1; rw [List.length_take] at this; omega
    rw [Nat.zero_add, cellk j]
    rw [List.getElem?_take_of_lt hj, Array.getElem?_toList] at hy
    exact hy
  · have hj0 : j = 0 := by simp at hj; omega
    subst hj0
    have hnc2 : n < cs.size := by omega
    refine ⟨?_, ?_⟩
    · rw [show 0 + n * 1 + 0 = n by omega, cellk n]; simp [hnc2]
    · simp only [World.frozen?, hb2]; simp; omega
  · have e : 0 + n * 1 = n := by omega
    rw [e]
    have hset : ((w.alloc (.cells #[.int .u8 (u.toNat : Int)] 5)).setCells g n [.int .u8 (u.toNat : Int)]) = (w.alloc (.cells #[.int .u8 (u.toNat : Int)] 5)).setCell ⟨g, n, none⟩ (.int .u8 (u.toNat : Int)) := rfl
    rw [hset]
    refine h _ _ ⟨g, cap, cs.setIfInBounds n (.int .u8 (u.toNat : Int)), ty, lo, hi', rfl, hg, ?_, hfr, hr, by simpa using hcc, fun j hj => ?_⟩ (fun W hW => (hW.alloc hB _).setCell hg _)
    · simp only [World.setCell]
      rw [Array.getElem?_modify, if_pos rfl, hb2]
      rfl
    · rw [Array.getElem?_setIfInBounds]
      by_cases e : n = j
      · subst e
        have : n < cs.size := by omega
        simp [this]
      · rw [if_neg e, hcs j (by omega)]
        have e' : ¬ j = n := by omega
        simp [e']
  · rcases hown.2 with ⟨_, e⟩ | ⟨g2, cap2, cur, rfl, h2, h3, h4, h5, h6, h7⟩
    · omega
    · have hsz2 : w.heap.size ≤ (w.alloc (.cells #[.int .u8 (u.toNat : Int)] 5)).heap.size := by simp
      refine h _ w' ⟨g2, cap2, cur, _, 0, 0, rfl, by omega, h3, .inr ⟨rfl, rfl⟩, h4, by omega, fun j hj => ?_⟩ (fun W hW => (hW.alloc hB _).grown hgr (by simp; omega) (fun k hk => by simp at hk))
      have hj7 : (cur.toList.take ((n + 1) * 1))[j]? = (cs.toList.take n ++ [.int .u8 (u.toNat : Int)])[j]? := by rw [h7]
      rw [List.getElem?_take_of_lt (by omega), Array.getElem?_toList] at hj7
      rw [hj7]
      have hlen : (cs.toList.take n).length = n := by rw [List.length_take, Array.length_toList]; omega
      by_cases e : j = n
      · subst e
        rw [List.getElem?_append_right (by omega), hlen, Nat.sub_self]; simp
      · rw [List.getElem?_append_left (by omega), List.getElem?_take_of_lt (by omega), Array.getElem?_toList, hcs j (by omega)]
        simp [e]
end
end Go.Proofs.YtgdebcpnihibjaaDoor
