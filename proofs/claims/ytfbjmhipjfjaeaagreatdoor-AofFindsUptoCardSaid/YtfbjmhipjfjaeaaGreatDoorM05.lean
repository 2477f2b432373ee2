/- Rows with room of any kind, in memory of their own: what they hold, a store, an append. The disk of the program: what is told of names. Rows of faults: a copy, one more; the plan. -/
import Derived.Test.YtfbjmhipjfjaeaaGreatDoorM01
import Derived.ArgAppend
import Derived.Test.YtfbjmhipjfjaeaaGreatDoorM04
import Derived.Lib.SliceRun
namespace Go.Proofs.YtfbjmhipjfjaeaaGreatDoor
open Go.ChangeShapes Go.WideShapes Go.ChangeAt Go.RowKit
set_option linter.unusedVariables false

theorem infoS : (Tryz.prog.info? 9).map (fun i => (i.zero, i.size, i.bytes)) = some (some (.string ⟨#[]⟩), 1, 16) := by kernel_rfl
/-- A slice of n texts in memory from block B on: nil, or a row with its room within its block. -/
def Zat (B : Nat) (w : World) (v : Value) (n : Nat) : Prop :=
  (v = .slice none 0 0 ∧ n = 0) ∨ ∃ g cap cur, v = .slice (some ⟨g, 0, none⟩) n cap ∧ B ≤ g ∧ w.heap[g]? = some (.cells cur 9 (0, 0)) ∧ n ≤ cap ∧ cap ≤ cur.size ∧ cap ≤ maxLen
theorem Zat.shape {B : Nat} {w : World} {v : Value} {n : Nat} (h : Zat B w v n) : ∃ ao cp, v = .slice ao n cp := by
  rcases h with ⟨rfl, rfl⟩ | ⟨g, cap, cur, rfl, _⟩
  · exact ⟨none, 0, rfl⟩
  · exact ⟨_, cap, rfl⟩
theorem Zat.kept {B : Nat} {w w' : World} {v : Value} {n : Nat} (h : Zat B w v n) (hb : Below w.heap.size w w') : Zat B w' v n := by
  refine h.imp id ?_
  rintro ⟨g, cap, cur, e, h1, h2, r⟩
  exact ⟨g, cap, cur, e, h1, (hb.block g (Array.getElem?_eq_some_iff.1 h2).1).trans h2, r⟩
/-- A store into it. -/
theorem Zat.store {B : Nat} {w : World} {v : Value} {n : Nat} (h : Zat B w v n) {g k : Nat} (hv : v.ownBlock = some g) (u : Value) : Zat B (w.setCell ⟨g, k, none⟩ u) v n := by
  rcases h with ⟨rfl, rfl⟩ | ⟨g', cap, cur, rfl, h1, h2, h3, h4, h5⟩
  · exact .inl ⟨rfl, rfl⟩
  · have : g' = g := by simpa [Value.ownBlock] using hv
    subst this
    refine .inr ⟨g', cap, cur.setIfInBounds k u, rfl, h1, ?_, h3, by simpa using h4, h5⟩
    simp [World.setCell, Array.getElem?_modify, h2]
theorem Zat.cell {B : Nat} {w : World} {v : Value} {n : Nat} (h : Zat B w v n) {g k : Nat} (hv : v.ownBlock = some g) (hk : k < n) : (∃ u, w.cell? ⟨g, k, none⟩ = some u) ∧ w.frozen? ⟨g, k, none⟩ = false := by
  rcases h with ⟨rfl, rfl⟩ | ⟨g', cap, cur, rfl, h1, h2, h3, h4, h5⟩
  · omega
  · have : g' = g := by simpa [Value.ownBlock] using hv
    subst this
    have hks : k < cur.size := by omega
    exact ⟨⟨cur[k], by simp [World.cell?, h2, hks]⟩, by simp [World.frozen?, h2]⟩
section
variable {ops : Array Oper} {rest : List Oper} {o : Oper} {a : Act} {Q : Exit → Act → World → Prop}
/-- 'z = append(z, x)', whatever room z has. -/
theorem wpList_append_z {B : Nat} (w : World) (hgd : o.guard = none) (s x : Operand) (ho : o.op = .call { callee := .builtin .append, args := #[s, x], argTypes := #[23, 23] })
    (v : Value) (n : Nat) (hs : a.eval s = v) (hz : Zat B w v n) (hB : B ≤ w.heap.size) (u : Value) (h1 : u.oneCell' = true) (hx : a.eval x = .slice (some ⟨w.heap.size, 0, none⟩) 1 1) (hn : n + 1 ≤ 8796093022200)
    (h : ∀ v' w', Zat B w' v' (n + 1) → (∀ (W : World) (F : Nat → Prop), Wr F W w → (∀ g, v.ownBlock = some g → F g ∨ W.heap.size ≤ g) → Wr F W w') → (∀ g, v'.ownBlock = some g → v.ownBlock = some g ∨ w.heap.size ≤ g) → wpList Tryz.prog ops Q rest (a.put o.dst v') w') :
    wpList Tryz.prog ops Q (o :: rest) a (w.alloc (.cells #[u] 9)) := by
  obtain ⟨i, hi, hzr, hsz, hby⟩ := info_parts infoS
  have zown : ∀ (C : Nat) (v' : Value) (w' : World) (xs : List Value), w.heap.size ≤ C → w'.ownsRow C 9 1 v' (n + 1) xs → Zat B w' v' (n + 1) ∧ ∀ g, v'.ownBlock = some g → w.heap.size ≤ g := fun C v' w' xs hC hown => by
    rcases hown.2 with ⟨_, e⟩ | ⟨g, cap, cur, rfl, h2, h3, h4, h5, h6, _⟩
    · omega
    · refine ⟨.inr ⟨g, cap, cur, rfl, by omega, h3, h4, by omega, h5⟩, fun k hk => ?_⟩
      have : g = k := by simpa [Value.ownBlock] using hk
      omega
  rcases hz with ⟨rfl, rfl⟩ | ⟨g, cap, cur, rfl, hg, hb, h4, h5, h6⟩
  · refine wpList_append_own _ hgd s x _ ho w.heap.size 9 i _ 1 16 Tryz.underlying23 hi hzr hsz hby rfl (by omega) (.slice none 0 0) 0 [] hs (World.ownsRow_nil _ _ _ _) ⟨w.heap.size, 0, none⟩ 1 1 [u] hx rfl (cell_one_new _ _ _) (by simpa using h1) (by simp only [maxLen]; omega) (by omega) (by simp) ?_
    intro v' w' hown hgr _
    obtain ⟨z1, z2⟩ := zown _ v' w' _ (Nat.le_refl _) hown
    exact h v' w' z1 (fun W F hW _ => (hW.alloc _).grown hgr fun k hk => by simp [Value.ownBlock] at hk) (fun k hk => .inr (z2 k hk))
  · have hglt := (Array.getElem?_eq_some_iff.1 hb).1
    have hb2 : (w.alloc (.cells #[u] 9)).heap[g]? = some (.cells cur 9 (0, 0)) := (Below.heap_alloc _ _ _ hglt).trans hb
    have cellk : ∀ k, k < cur.size → (w.alloc (.cells #[u] 9)).cell? ⟨g, k, none⟩ = cur[k]? := fun k hk => by
      simp only [World.cell?, hb2]
      simp
    refine wpList_append_arg _ hgd s x _ ho 9 i _ 1 16 Tryz.underlying23 hi hzr hsz hby rfl (by omega) g 0 n cap (cur.toList.take n) hs (by rw [List.length_take, Array.length_toList]; omega) (fun j y hy => ?_) ⟨w.heap.size, 0, none⟩ 1 1 [u] hx rfl (cell_one_new _ _ _) (by simpa using h1) (fun hr j hj => ?_) (by simp only [maxLen]; omega) (by omega) (fun hr => ?_) (fun hr v' w' hown hgr => ?_)
    · have hj : j < n := by have := (List.getElem?_eq_some_iff.1 hy).1; rw [List.length_take] at this; omega
      rw [Nat.zero_add, cellk j (by omega)]
      rw [List.getElem?_take_of_lt hj, Array.getElem?_toList] at hy
      exact hy
    · have hj0 : j = 0 := by simp at hj; omega
      subst hj0
      have hnc : n < cur.size := by omega
      refine ⟨?_, ?_⟩
      · rw [show 0 + n * 1 + 0 = n by omega, cellk n hnc]; simp [hnc]
      · simp only [World.frozen?, hb2]; simp
    · have e : 0 + n * 1 = n := by omega
      rw [e]
      refine h _ _ (.inr ⟨g, cap, cur.setIfInBounds n u, rfl, hg, ?_, hr, by simpa using h5, h6⟩) (fun W F hW hF => ?_) (fun k hk => .inl hk)
      · show ((w.alloc (.cells #[u] 9)).setCell ⟨g, n, none⟩ u).heap[g]? = _
        simp only [World.setCell]
        rw [Array.getElem?_modify, if_pos rfl, hb2]
        rfl
      · have hW2 := hW.alloc (.cells #[u] 9)
        refine ⟨hW2.os, hW2.tape, hW2.output, ?_, fun k hk hf => ?_⟩
        · show W.heap.size ≤ ((w.alloc (.cells #[u] 9)).setCell ⟨g, n, none⟩ u).heap.size
          simpa [World.setCell] using hW2.size
        · refine (Below.heap_setCell _ _ _ _ (fun e => ?_)).trans (hW2.block k hk hf)
          rcases hF g rfl with h7 | h7
          · exact hf (by rw [e]; exact h7)
          · have : k = g := e
            omega
    · obtain ⟨z1, z2⟩ := zown _ v' w' _ (by simp) hown
      exact h v' w' z1 (fun W F hW _ => (hW.alloc _).grown hgr fun k hk => by simp at hk) (fun k hk => .inr (z2 k hk))
end
/-- A slice of these texts in memory from block B on, nil or with its room within its block. -/
def ZRow (B : Nat) (w : World) (v : Value) (bs : List ByteArray) : Prop :=
  (v = .slice none 0 0 ∧ bs = []) ∨ ∃ g cap cur, v = .slice (some ⟨g, 0, none⟩) bs.length cap ∧ B ≤ g ∧ w.heap[g]? = some (.cells cur 9 (0, 0)) ∧ bs.length ≤ cap ∧ cap ≤ cur.size ∧ cap ≤ maxLen ∧ ∀ (j : Nat) x, bs[j]? = some x → cur[j]? = some (Value.string x)
namespace ZRow
variable {B : Nat} {w w' : World} {v : Value} {bs : List ByteArray}
theorem zat (h : ZRow B w v bs) : Zat B w v bs.length := by
  rcases h with ⟨rfl, rfl⟩ | ⟨g, cap, cur, rfl, h1, h2, h3, h4, h5, -⟩
  · exact .inl ⟨rfl, rfl⟩
  · exact .inr ⟨g, cap, cur, rfl, h1, h2, h3, h4, h5⟩
theorem shape (h : ZRow B w v bs) : ∃ ao cp, v = .slice ao bs.length cp := h.zat.shape
theorem srow (h : ZRow B w v bs) : SRow w v bs := by
  rcases h with ⟨rfl, rfl⟩ | ⟨g, cap, cur, rfl, h1, h2, h3, h4, h5, h6⟩
  · exact ⟨none, 0, rfl, .inl rfl⟩
  · refine ⟨_, cap, rfl, .inr ⟨g, 0, rfl, (Array.getElem?_eq_some_iff.1 h2).1, fun j x hx => ?_⟩⟩
    rw [Nat.zero_add]
    simp only [World.cell?, h2]
    simpa using h6 j x hx
theorem kept_by (h : ZRow B w v bs) (hw : ∀ (k : Nat) (cur : Array Value), B ≤ k → w.heap[k]? = some (.cells cur 9 (0, 0)) → w'.heap[k]? = w.heap[k]?) : ZRow B w' v bs := by
  refine h.imp id ?_
  rintro ⟨g, cap, cur, e, h1, h2, r⟩
  exact ⟨g, cap, cur, e, h1, (hw g cur h1 h2).trans h2, r⟩
theorem later (h : ZRow B w v bs) (hb : Below w.heap.size w w') : ZRow B w' v bs := h.kept_by fun k cur _ hk => hb.block k (Array.getElem?_eq_some_iff.1 hk).1
theorem mono {C : Nat} (h : ZRow B w v bs) (hC : C ≤ B) : ZRow C w v bs := by
  refine h.imp id ?_
  rintro ⟨g, cap, cur, e, h1, r⟩
  exact ⟨g, cap, cur, e, Nat.le_trans hC h1, r⟩
theorem of_owns {C n : Nat} (h : w.ownsRow C 9 1 v n (bs.map Value.string)) (hn : n = bs.length) (hF : ∀ g, v.ownBlock = some g → B ≤ g) : ZRow B w v bs := by
  subst hn
  rcases h.2 with ⟨h1, h2⟩ | ⟨g, cap, cur, rfl, h2, h3, h4, h5, h6, h7⟩
  · exact .inl ⟨h1, List.eq_nil_of_length_eq_zero h2⟩
  · refine .inr ⟨g, cap, cur, rfl, hF g rfl, h3, h4, by omega, h5, fun j x hx => ?_⟩
    have hj := (List.getElem?_eq_some_iff.1 hx).1
    have : (cur.toList.take (bs.length * 1))[j]? = (bs.map Value.string)[j]? := by rw [h7]
    rw [List.getElem?_take_of_lt (by omega), Array.getElem?_toList] at this
    rw [this]; simp [hx]
/-- Clipped. -/
theorem clip (h : ZRow B w v bs) {ao : Option Addr} {cp : Nat} (hv : v = .slice ao bs.length cp) : ZRow B w (.slice ao bs.length bs.length) bs := by
  rcases h with ⟨rfl, rfl⟩ | ⟨g, cap, cur, rfl, h1, h2, h3, h4, h5, h6⟩
  · cases hv; exact .inl ⟨rfl, rfl⟩
  · cases hv; exact .inr ⟨g, _, cur, rfl, h1, h2, Nat.le_refl _, by omega, by omega, h6⟩
end ZRow
end Go.Proofs.YtfbjmhipjfjaeaaGreatDoor

namespace Go.Proofs.YtfbjmhipjfjaeaaGreatDoor
open Go.ChangeShapes Go.WideShapes Go.ChangeAt Go.RowKit Go.Maps Go.Sort Go.Shelf
open Pl (Tx Fl Ch Nm Dk)
set_option linter.unusedVariables false

def textsB (l : List (List UInt8)) : List ByteArray := l.map str
theorem textsB_length (l : List (List UInt8)) : (textsB l).length = l.length := by simp [textsB]
/-- The iterator over a map's keys: a function value over one new block. -/
theorem keys_iter (mb : Option Nat) (W : World) : Calls Tryz.prog 63 #[.map mb] W fun e w' => e = .returned (.func (.func 83) #[] #[.pointer (some ⟨W.heap.size, 0, none⟩)]) ∧ w' = W.alloc (.cells #[.map mb] 88) :=
  callsIn_wide.1 (AnyZ.keys_in Tryz.keys63 Fence.wide 5 trivial rfl mb W)
theorem sorts_in (m : Nat) : AnyZ.SortsIn Tryz.prog Tryz.sorted62_ren Fence.wide m :=
  ⟨fun blk off cap ss W hH hblk hsz => callsIn_wide.2 (AnyM.slices_Sort_string Tryz.sort82 blk off cap ss W hH hblk hsz),
   fun p cap W => callsIn_wide.2 (AnyM.slices_Sort_string_none Tryz.sort82 p cap W)⟩
set_option maxHeartbeats 1000000 in
/-- The keys that it gives, sorted. -/
theorem sorted_keys {H : Type} (b nn : Nat) (D0 : DataW H) (R : Value → Option (DataW H × List MemPlace)) (w : World) (hown : w.ownsMap Tryz.prog 9 R b nn D0) (hmax : Maps.size D0 ≤ maxLen) (hbytes : Maps.size D0 * 16 ≤ 140737488355328) :
    Calls Tryz.prog 62 #[.func (.func 83) #[] #[.pointer (some ⟨w.heap.size, 0, none⟩)]] (w.alloc (.cells #[.map (some b)] 88)) fun e w' => ∃ (v : Value) (ss : List (List UInt8)), e = .returned v ∧ ss.Perm (strKeys D0) ∧
      w'.ownsRow (w.alloc (.cells #[.map (some b)] 88)).heap.size 9 1 v ss.length ((ss.mergeSort (fun x y => decide (x ≤ y))).map encStr) ∧ (v = .slice none 0 0 ↔ ss = []) ∧ Below (w.alloc (.cells #[.map (some b)] 88)).heap.size (w.alloc (.cells #[.map (some b)] 88)) w' := by
  have hbl := hown.lt
  have hseq : SeqGives Fence.wide 2 Tryz.prog 83 #[.pointer (some ⟨w.heap.size, 0, none⟩)] encStr (fun ss => ss.Perm (strKeys D0)) (Maps.size D0) (w.alloc (.cells #[.map (some b)] 88)) :=
    AnyZ.keys_gives (ρ := Tryz.keys63_ren) { Tryz.keys63 with } Fence.wide _ trivial rfl (by omega) w.heap.size b nn D0 _ (by simp) (by simp) (by
      obtain ⟨es, clock, hb, Ft, hs, hD⟩ := hown
      exact ⟨es, clock, (Below.heap_alloc _ _ b hbl).trans hb, Ft, hs, hD⟩)
  exact callsIn_wide.1 (AnyZ.sorted_in Tryz.sorted62 Fence.wide 5 trivial trivial trivial trivial rfl (by omega) (sorts_in _) (enters_of Tryz.func82 (by kernel_rfl) rfl) 83 #[.pointer (some ⟨w.heap.size, 0, none⟩)] trivial (enters_of Tryz.func83 (by kernel_rfl) rfl) _ _ hmax hbytes _ hseq)
/-- The names of a list, as a map tells them. -/
def Pl.keys (l : Nm) : List Tx := l.map (·.1)
theorem keys_sorted {l : Nm} (h : Pl.RisN l) : (Pl.keys l).Pairwise (fun a b => decide (a ≤ b) = true) := by
  unfold Pl.keys
  rw [List.pairwise_map]
  exact h.imp fun {a b} hab => by
    have : a.1 ≤ b.1 := List.not_lt.1 (Pl.ltA hab)
    simpa using this
theorem keys_nodup {l : Nm} (h : Pl.RisN l) : (Pl.keys l).Nodup := by
  unfold Pl.keys List.Nodup
  rw [List.pairwise_map]
  exact h.imp fun {a b} hab => Pl.ltN hab
theorem FilesAre.perm {w : World} {b n : Nat} {D : DataW Unit} {φ : Nat → Nat} {l : Nm} (h : FilesAre D φ l) (hr : Pl.RisN l) (hown : ownsP w b n D) : (Pl.keys l).Perm (strKeys D) :=
  Collected.perm (left := fun _ => false) ⟨keys_nodup hr, fun x => by
    have hh := h.has x
    constructor
    · intro hx
      refine ⟨?_, rfl⟩
      obtain ⟨p, hp, rfl⟩ := List.mem_map.1 hx
      rw [show (Lit.string p.1) = litB p.1 from rfl, hh, Pl.find_of_mem hr (show (p.1, p.2) ∈ l from hp)]; rfl
    · rintro ⟨hx, -⟩
      rw [show (Lit.string x) = litB x from rfl, hh] at hx
      obtain ⟨f, hf⟩ := Option.isSome_iff_exists.1 hx
      exact List.mem_map.2 ⟨_, Pl.find_mem hf, rfl⟩⟩ hown strKeyed Tryz.underlying9 (fun _ => rfl)
def ToldEnd (l : Nm) (w : World) (e : Ending) (w' : World) : Prop := ∃ v, e = .returned v ∧ ZRow w.heap.size w' v (textsB (Pl.keys l)) ∧ Below w.heap.size w w'
theorem sorted_names {w : World} {b : Nat} {φ : Nat → Nat} {l : Nm} (hm : FMap w b φ l) (hr : Pl.RisN l) (hl : l.length ≤ 4194304) :
    Calls Tryz.prog 62 #[.func (.func 83) #[] #[.pointer (some ⟨w.heap.size, 0, none⟩)]] (w.alloc (.cells #[.map (some b)] 88)) (ToldEnd l w) := by
  obtain ⟨D, hown, hf⟩ := hm
  have hsz := hf.size
  refine (sorted_keys b _ D ptrE w hown (by unfold maxLen; omega) (by omega)).mono ?_
  rintro e w2 ⟨v, ss, rfl, hp, hrow, -, hb⟩
  have hpp := hf.perm hr hown
  have hms : (ss.mergeSort (fun x y => decide (x ≤ y))) = Pl.keys l := (mergeSort_of_perm (hp.trans hpp.symm)).trans (List.mergeSort_of_pairwise (keys_sorted hr))
  have hlen : ss.length = (Pl.keys l).length := (hp.trans hpp.symm).length_eq
  refine ⟨v, rfl, ZRow.of_owns (C := (w.alloc (.cells #[.map (some b)] 88)).heap.size) (n := ss.length) ?_ (by rw [textsB_length, hlen]) (fun g hg => by have := (hrow.lt g hg).1; simp at this; omega), ((Below.refl w.heap.size w).alloc (Nat.le_refl _) _).trans (hb.mono (by simp))⟩
  have : (textsB (Pl.keys l)).map Value.string = (ss.mergeSort (fun x y => decide (x ≤ y))).map encStr := by
    rw [hms]; simp [textsB, Function.comp_def, str]
  rw [this]; exact hrow
set_option maxRecDepth 100000 in
set_option maxHeartbeats 1600000 in
theorem names_any {w : World} {b j : Nat} {F : Nat → Prop} {S : Dk} (h : Dsk w b F S) (hI : S.Inv) (hS : S.Small j) (hj : j ≤ 4194304) :
    Calls Tryz.prog 65 #[.pointer (some ⟨b, 0, none⟩)] w (ToldEnd (if S.down = true then [] else S.names) w) := by
  obtain ⟨φ, nm, lm, ov, pv, h⟩ := h
  obtain ⟨c0, -, -, -, -, c5⟩ := h.cells
  cases hd : S.down with
  | true =>
    rw [hd] at c5
    rw [if_pos rfl]
    clear h hd
    go_enter Tryz.func65, Tryz.ntmps65
    go_wp2
    go_ret
    exact ⟨_, rfl, .inl ⟨rfl, rfl⟩, Below.refl _ _⟩
  | false =>
    rw [hd] at c5
    rw [if_neg (by simp)]
    have HN := Lib.hid (sorted_names h.names hI.good.ris (by have := hI.good.few; have := hS.files; omega))
    clear h hd
    go_enter Tryz.func65, Tryz.ntmps65
    go_wp2_with fail
    (refine (keys_iter _ _).mono ?_; rintro e w1 ⟨rfl, rfl⟩)
    go_wp2_with fail
    (refine HN.out.mono ?_; rintro e w2 ⟨v, rfl, z, bl⟩)
    have HZ := Lib.hid (And.intro z bl)
    obtain ⟨va, vc, rfl⟩ := z.shape
    clear z bl
    go_wp2
    go_ret
    exact ⟨_, rfl, HZ.out.1, HZ.out.2⟩
set_option maxHeartbeats 400000 in
theorem steps_any {w : World} {b : Nat} {F : Nat → Prop} {S : Dk} (h : Dsk w b F S) :
    Calls Tryz.prog 29 #[.pointer (some ⟨b, 0, none⟩)] w fun e w' => e = .returned (.int .i64 S.steps) ∧ w = w' := by
  obtain ⟨φ, nm, lm, ov, pv, h⟩ := h
  obtain ⟨-, -, -, c3, -, -⟩ := h.cells
  go_enter Tryz.func29, Tryz.ntmps29
  go_wp2
  go_ret
  exact ⟨rfl, rfl⟩
set_option maxHeartbeats 400000 in
theorem down_any {w : World} {b : Nat} {F : Nat → Prop} {S : Dk} (h : Dsk w b F S) :
    Calls Tryz.prog 33 #[.pointer (some ⟨b, 0, none⟩)] w fun e w' => e = .returned (.bool S.down) ∧ w = w' := by
  obtain ⟨φ, nm, lm, ov, pv, h⟩ := h
  obtain ⟨-, -, -, -, -, c5⟩ := h.cells
  go_enter Tryz.func33, Tryz.ntmps33
  go_wp2
  go_ret
  exact ⟨rfl, rfl⟩
def NewEnd (w : World) (e : Ending) (w' : World) : Prop := ∃ b F, e = .returned (.pointer (some ⟨b, 0, none⟩)) ∧ Dsk w' b F Dk.new ∧ (∀ k, F k → w.heap.size ≤ k) ∧ Below w.heap.size w w'
theorem disk_fresh (w : World) : Dsk (((w.alloc (.map #[] 0)).alloc (.map #[] 0)).alloc (.cells #[.map (some w.heap.size), .map (some (w.heap.size + 1)), .slice none 0 0, .int .i64 0, .slice none 0 0, .bool false] 91)) (w.heap.size + 2)
    (fun k => k = w.heap.size ∨ k = w.heap.size + 1 ∨ k = w.heap.size + 2) Dk.new := by
  have hz1 : (w.alloc (.map #[] 0)).heap.size = w.heap.size + 1 := by simp
  have hz2 : ((w.alloc (.map #[] 0)).alloc (.map #[] 0)).heap.size = w.heap.size + 2 := by simp
  have hm1 := FMap.made w (fun _ => 0)
  have hm2 := FMap.made (w.alloc (.map #[] 0)) (fun _ => 0)
  rw [hz1] at hm2
  have al : ∀ (W : World) (o : Obj), Wr (fun _ => False) W (W.alloc o) := fun W o => (Wr.refl _ W).alloc o
  refine ⟨fun _ => 0, w.heap.size, w.heap.size + 1, .slice none 0 0, .slice none 0 0, ?_⟩
  exact {
    lt := fun k hk => by rcases hk with rfl | rfl | rfl <;> simp <;> omega
    own := .inr (.inr rfl)
    ownN := .inl rfl
    ownL := .inr (.inl rfl)
    ne := by omega
    block := by
      have := heap_alloc_new ((w.alloc (.map #[] 0)).alloc (.map #[] 0)) (.cells #[.map (some w.heap.size), .map (some (w.heap.size + 1)), .slice none 0 0, .int .i64 0, .slice none 0 0, .bool false] 91)
      rw [hz2] at this
      exact this
    names := (hm1.kept (al _ _) id).kept (al _ _) id
    last := hm2.kept (al _ _) id
    files := fun i f hf => by simp [Dk.new] at hf
    inj := fun i j hi => by simp [Dk.new] at hi
    opn := RowC.nil _ _ _ _
    plan := PRow.nil _ _ }
set_option maxHeartbeats 400000 in
theorem new_any (w : World) : Calls Tryz.prog 20 #[] w (NewEnd w) := by
  have hmm := @run_makeMap Tryz.prog
  go_enter Tryz.func20, Tryz.ntmps20
  go_wp2
  go_ret
  exact ⟨w.heap.size + 2, _, rfl, disk_fresh w, fun k hk => by rcases hk with rfl | rfl | rfl <;> omega, (((Below.refl _ _).alloc (Nat.le_refl _) _).alloc (by simp) _).alloc (by simp; omega) _⟩
end Go.Proofs.YtfbjmhipjfjaeaaGreatDoor

namespace Go.Proofs.YtfbjmhipjfjaeaaGreatDoor
open Go.ChangeShapes Go.WideShapes Go.ChangeAt Go.RowKit Go.Maps
open Pl (Tx Fl Ch Nm Dk)
set_option linter.unusedVariables false

abbrev Flt := Int × Int × Int
def flCells (p : Flt) : List Value := [.int .i64 p.1, .int .i64 p.2.1, .int .i64 p.2.2]
theorem fl_len (l : List Flt) : (l.flatMap flCells).length = l.length * 3 := by
  induction l with
  | nil => rfl
  | cons p l ih => rw [List.flatMap_cons, List.length_append, ih, List.length_cons]; simp [flCells]; omega
theorem fl_get : ∀ {l : List Flt} {j : Nat} {p : Flt}, l[j]? = some p → (l.flatMap flCells)[j * 3]? = some (.int .i64 p.1) ∧ (l.flatMap flCells)[j * 3 + 1]? = some (.int .i64 p.2.1) ∧ (l.flatMap flCells)[j * 3 + 2]? = some (.int .i64 p.2.2)
  | [], j, p, h => by simp at h
  | q :: r, 0, p, h => by
    simp at h; subst h
    simp [flCells]
  | q :: r, j + 1, p, h => by
    have ih := fl_get (l := r) (j := j) (p := p) (by simpa using h)
    rw [List.flatMap_cons]
    have e : ∀ k, (flCells q ++ r.flatMap flCells)[(j + 1) * 3 + k]? = (r.flatMap flCells)[j * 3 + k]? := fun k => by
      rw [List.getElem?_append_right (by simp [flCells]; omega)]
      congr 1; simp [flCells]; omega
    exact ⟨by rw [show (j + 1) * 3 = (j + 1) * 3 + 0 from rfl, e 0]; exact ih.1, by rw [e 1]; exact ih.2.1, by rw [e 2]; exact ih.2.2⟩
theorem fl_snoc (l : List Flt) (p : Flt) : (l ++ [p]).flatMap flCells = l.flatMap flCells ++ flCells p := by simp
/-- A row of faults of the call's own. -/
def FRow (w : World) (B : Nat) (v : Value) (l : List Flt) : Prop := w.ownsRow B 96 3 v l.length (l.flatMap flCells)
theorem FRow.shape {w : World} {B : Nat} {v : Value} {l : List Flt} (h : FRow w B v l) : ∃ ao cp, v = .slice ao l.length cp := by
  rcases h.2 with ⟨h1, h2⟩ | ⟨g, cap, cur, h1, _⟩
  · exact ⟨none, 0, by rw [h1, h2]⟩
  · exact ⟨_, _, h1⟩
theorem FRow.prow {w : World} {B : Nat} {v : Value} {l : List Flt} (h : FRow w B v l) : PRow w (fun k => B ≤ k) v l := by
  rcases h.2 with ⟨h1, h2⟩ | ⟨g, cap, cur, rfl, h3, h4, _⟩
  · exact ⟨none, 0, by rw [h1, h2], .inl (List.eq_nil_of_length_eq_zero h2)⟩
  · refine ⟨_, cap, rfl, .inr ⟨g, 0, rfl, h3, (Array.getElem?_eq_some_iff.1 h4).1, ⟨cur, _, h4⟩, fun j p hp => ?_⟩⟩
    have hj := (List.getElem?_eq_some_iff.1 hp).1
    obtain ⟨c0, c1, c2⟩ := fl_get hp
    have hc : ∀ k, k < l.length * 3 → w.cell? ⟨g, k, none⟩ = (l.flatMap flCells)[k]? := fun k hk => World.ownsRow.cellAt h k hk
    refine ⟨?_, ?_, ?_⟩
    · rw [Nat.zero_add, hc _ (by omega)]; exact c0
    · rw [Nat.zero_add, hc _ (by omega)]; exact c1
    · rw [Nat.zero_add, hc _ (by omega)]; exact c2
theorem FRow.empty {w : World} {B g : Nat} (h : w.heap[g]? = some (.cells #[] 96 (0, 0))) (hB : B ≤ g) : FRow w B (.slice (some ⟨g, 0, none⟩) 0 0) [] :=
  ⟨rfl, .inr ⟨g, 0, #[], rfl, hB, h, Nat.le_refl _, Nat.zero_le _, rfl, rfl⟩⟩
theorem infoF : (Tryz.prog.info? 96).map (fun i => (i.zero, i.size, i.bytes)) = some (some (.agg #[.int .i64 0, .int .i64 0, .int .i64 0]), 3, 24) := by kernel_rfl
section
variable {P : Program} {o : Oper} {a : Act} {Q : Exit → Act → World → Prop} {K : Act → World → Prop}
theorem run_append_nilf {w : World} (base : Nat) (t ty e : TypeId) (i : TypeInfo) (size c : Nat) (ht : P.underlying t = some (.slice e)) (hi : P.info? e = some i)
    (v : Value) (n : Nat) (xs : List Value) (hown : w.ownsRow base e size v n xs) :
    (Builtin.append_ #[t, t] ty #[v, .slice none 0 c]).run P w = .ok v w := by
  rcases hown.2 with ⟨rfl, rfl⟩ | ⟨g, cap, cur, rfl, _, _, hnc, _⟩
  · simp [Builtin.append_, run_underlying ht, sizeOf, typeInfo, hi, Builtin.lenOf, Builtin.firstCells]
  · simp [Builtin.append_, run_underlying ht, sizeOf, typeInfo, hi, Builtin.lenOf, Builtin.firstCells, hnc, storeCells]
/-- 'append([]F{}, l...)': a copy. -/
theorem wp_append_faults {w0 w : World} {F : Nat → Prop} (s x : Operand) (ho : o.op = .call { callee := .builtin .append, args := #[s, x], argTypes := #[53, 53] })
    (l : List Flt) (v u : Value) (hs : a.eval s = v) (hx : a.eval x = u) (hM : FRow w w0.heap.size v []) (hu : PRow w F u l) (hb : Below w0.heap.size w0 w) (hn : l.length ≤ 4194304)
    (h : ∀ v' w', FRow w' w0.heap.size v' l → Below w0.heap.size w0 w' → K (a.put o.dst v') w') : o.wp Tryz.prog a w K Q := by
  obtain ⟨i, hi, hz, hsz, hby⟩ := info_parts infoF
  obtain ⟨ao, cp, rfl, hh⟩ := hu
  have out : ∀ v' w', w'.ownsRow w0.heap.size 96 3 v' (0 + l.length) ([] ++ l.flatMap flCells) → w.grownBy w' v.ownBlock → K (a.put o.dst v') w' := fun v' w' hown hg =>
    h v' w' (by have := hown; rwa [Nat.zero_add, List.nil_append] at this) (hb.grown hg hb.size fun k hk => (hM.lt k hk).1)
  have some_case : ∀ ad : Addr, ao = some ad → (∀ j u, (l.flatMap flCells)[j]? = some u → w.cell? (ad.add j) = some u) → o.wp Tryz.prog a w K Q := fun ad e hc => by
    subst e
    exact wp_append_own w s x _ ho w0.heap.size 96 i _ 3 24 Tryz.underlying53 hi hz hsz hby rfl (by omega) v 0 [] hs hM ad l.length cp (l.flatMap flCells) hx (fl_len l) hc (by
      intro u hu
      obtain ⟨p, _, hp⟩ := List.mem_flatMap.1 hu
      simp [flCells] at hp
      rcases hp with rfl | rfl | rfl <;> rfl) (by unfold maxLen; omega) (by omega) hb.size fun v' w' h2 h3 _ => out v' w' h2 h3
  rcases hh with rfl | ⟨g, off, rfl, _, hg, _, hc⟩
  · rcases ao with _ | ad
    · have hrun := run_append_nilf (P := Tryz.prog) (w := w) w0.heap.size 53 o.type 96 i 3 cp Tryz.underlying53 hi v 0 [] hM
      have hk := h v w hM hb
      unfold Oper.wp
      simp [execOp, ho, resolve, invoke, builtin, hs, hx, hrun, Result.andThen]
      exact hk
    · exact some_case ad rfl (by simp)
  · refine some_case _ rfl fun j u hu => ?_
    have hj := (List.getElem?_eq_some_iff.1 hu).1
    rw [fl_len] at hj
    obtain ⟨p, hp⟩ : ∃ p, l[j / 3]? = some p := ⟨_, List.getElem?_eq_getElem (by omega)⟩
    obtain ⟨c0, c1, c2⟩ := hc _ p hp
    obtain ⟨d0, d1, d2⟩ := fl_get hp
    rw [add_plain]
    have hm : j % 3 < 3 := Nat.mod_lt _ (by omega)
    rcases hmod : j % 3 with _ | _ | _ | k
    · rw [show j / 3 * 3 = j by omega] at c0 d0
      rw [d0] at hu; rw [c0, hu]
    · rw [show j / 3 * 3 + 1 = j by omega] at d1
      rw [show off + j / 3 * 3 + 1 = off + j by omega] at c1
      rw [d1] at hu; rw [c1, hu]
    · rw [show j / 3 * 3 + 2 = j by omega] at d2
      rw [show off + j / 3 * 3 + 2 = off + j by omega] at c2
      rw [d2] at hu; rw [c2, hu]
    · omega
theorem wpList_append_faults {w0 w : World} {F : Nat → Prop} {ops : Array Oper} {rest : List Oper} (hgd : o.guard = none) (s x : Operand) (ho : o.op = .call { callee := .builtin .append, args := #[s, x], argTypes := #[53, 53] })
    (l : List Flt) (v u : Value) (hs : a.eval s = v) (hx : a.eval x = u) (hM : FRow w w0.heap.size v []) (hu : PRow w F u l) (hb : Below w0.heap.size w0 w) (hn : l.length ≤ 4194304)
    (h : ∀ v' w', FRow w' w0.heap.size v' l → Below w0.heap.size w0 w' → wpList Tryz.prog ops Q rest (a.put o.dst v') w') : wpList Tryz.prog ops Q (o :: rest) a w :=
  wpList_plain hgd fun _ hK => wp_append_faults s x ho l v u hs hx hM hu hb hn fun v' w' h1 h2 => hK _ _ (h v' w' h1 h2)
end
def CloneFEnd (l : List Flt) (w : World) (e : Ending) (w' : World) : Prop := ∃ ao cp, e = .returned (.slice ao l.length cp) ∧ PRow w' (fun k => w.heap.size ≤ k ∧ k < w'.heap.size) (.slice ao l.length cp) l ∧ Below w.heap.size w w'
theorem PRow.bounded {w : World} {F : Nat → Prop} {v : Value} {l : List Flt} (h : PRow w F v l) : PRow w (fun k => F k ∧ k < w.heap.size) v l := by
  obtain ⟨ao, cp, e, h⟩ := h
  refine ⟨ao, cp, e, h.imp id ?_⟩
  rintro ⟨g, off, h1, hF, hg, r⟩
  exact ⟨g, off, h1, ⟨hF, hg⟩, hg, r⟩
set_option maxRecDepth 100000 in
set_option maxHeartbeats 1600000 in
theorem clonef_any {F : Nat → Prop} (l : List Flt) (v : Value) (w : World) (h : PRow w F v l) (hn : l.length ≤ 4194304) :
    Calls Tryz.prog 60 #[v] w (CloneFEnd l w) := by
  obtain ⟨ao, cp, rfl⟩ := h.shape
  have hq := fun w => Go.Lib.run_eql_slice_nil (P := Tryz.prog) w 53 96 ao l.length cp 0 0 Tryz.underlying53
  cases ao with
  | none =>
    have hl : l = [] := by
      obtain ⟨a, c, e, h⟩ := h
      rcases h with h | ⟨g, off, h1, _⟩
      · exact h
      · cases e; cases h1
    subst hl
    clear h
    simp only [Option.isNone_none, List.length_nil] at hq
    go_enter Tryz.func60, Tryz.ntmps60
    go_wp2
    go_ret
    exact ⟨none, 0, rfl, PRow.nil _ _, Below.refl _ _⟩
  | some ad =>
    have H := Lib.hid (h.mono (G := fun _ => True) (fun _ _ => trivial))
    clear h
    simp only [Option.isNone_some] at hq
    have H2 := Lib.hid (H.out.same (w' := w.alloc (.cells #[] 96)) (by simp) (fun k cur fz _ hk => heap_alloc_old w _ (Array.getElem?_eq_some_iff.1 hk).1))
    have H3 := Lib.hid (FRow.empty (B := w.heap.size) (heap_alloc_new w (.cells #[] 96)) (Nat.le_refl _))
    have H4 := Lib.hid ((Below.refl w.heap.size w).alloc (Nat.le_refl _) (.cells #[] 96))
    go_enter Tryz.func60, Tryz.ntmps60
    go_wp2_with (at_builtin; refine wpList_append_faults (w0 := w) rfl (.tmp 5) (.tmp 6) rfl l _ _ rfl rfl H3.out H2.out H4.out hn ?_; intro v' w' m' b')
    obtain ⟨va, vc, rfl⟩ := m'.shape
    go_ret
    exact ⟨va, vc, rfl, m'.prow.bounded, b'⟩
/-- The plan's cell is written. -/
theorem DiskAt.setPlan {w : World} {b : Nat} {F : Nat → Prop} {φ : Nat → Nat} {S : Dk} {nm lm : Nat} {ov pv : Value} (h : DiskAt w b F φ S nm lm ov pv) {v : Value} {l : List Flt} {lo : Nat} (hv : PRow w (fun k => lo ≤ k ∧ k < w.heap.size) v l) :
    DiskAt (w.setCell ⟨b, 4, none⟩ v) b (fun k => F k ∨ (lo ≤ k ∧ k < w.heap.size)) φ { S with plan := l } nm lm ov v := by
  have ho : ∀ k, k ≠ b → (w.setCell ⟨b, 4, none⟩ v).heap[k]? = w.heap[k]? := fun k hk => Below.heap_setCell _ _ _ _ hk
  have hs : (w.setCell ⟨b, 4, none⟩ v).heap.size = w.heap.size := heap_setCell_size _ _ _
  exact {
    lt := fun k hk => by rw [hs]; rcases hk with hk | hk; exact h.lt k hk; exact hk.2
    own := .inl h.own
    ownN := .inl h.ownN
    ownL := .inl h.ownL
    ne := h.ne
    block := heap_setCell_same h.block
    names := h.names.same (ho nm fun e => h.names.notCells h.block e.symm)
    last := h.last.same (ho lm fun e => h.last.notCells h.block e.symm)
    files := fun i f hf => by
      obtain ⟨f1, f2⟩ := h.files i f hf
      exact ⟨(ho _ (h.notb (by decide) f1)).trans f1, .inl f2⟩
    inj := h.inj
    opn := (h.opn.kept_by fun k cur hk => ho k (h.notb (by decide) hk)).mono fun k hk => .inl hk
    plan := (hv.same (by rw [hs]; exact Nat.le_refl _) fun k cur fz _ hk => ho k (h.notb (by decide) hk)).mono fun k hk => .inr hk }
theorem planOk_cons {k : Int} {p : Flt} {r : List Flt} : Pl.planOk k (p :: r) = (decide (k < p.1 ∧ 1 ≤ p.2.1 ∧ p.2.1 ≤ 3 ∧ 0 ≤ p.2.2 ∧ (p.2.2 ≤ 0 ∨ p.2.1 = 2)) && Pl.planOk p.1 r) := rfl
abbrev fineF (k : Int) (p : Flt) : Prop := k < p.1 ∧ 1 ≤ p.2.1 ∧ p.2.1 ≤ 3 ∧ 0 ≤ p.2.2 ∧ (p.2.2 ≤ 0 ∨ p.2.1 = 2)
theorem planOk_drop {S : Dk} {l : List Flt} {j : Nat} {k : Int} {p : Flt} (hp : l[j]? = some p) (h : Pl.planOk S.steps l = Pl.planOk k (l.drop j)) : (fineF k p → Pl.planOk S.steps l = Pl.planOk p.1 (l.drop (j + 1))) ∧ (¬ fineF k p → Pl.planOk S.steps l = false) := by
  have hd : l.drop j = p :: l.drop (j + 1) := by
    obtain ⟨h1, h2⟩ := List.getElem?_eq_some_iff.1 hp
    rw [List.drop_eq_getElem_cons h1, h2]
  rw [hd, planOk_cons] at h
  refine ⟨fun hf => ?_, fun hf => ?_⟩
  · rw [h, decide_eq_true hf, Bool.true_and]
  · rw [h, decide_eq_false hf, Bool.false_and]
set_option maxRecDepth 100000 in
set_option maxHeartbeats 3200000 in
theorem plan_any {w : World} {b j : Nat} {F G : Nat → Prop} {S : Dk} (h : Dsk w b F S) (hS : S.Small j) (hj : j ≤ 4194304) (v : Value) (l : List Flt) (hv : PRow w G v l) (hl : l.length ≤ 4194304) :
    Calls Tryz.prog 27 #[.pointer (some ⟨b, 0, none⟩), v] w (OpEnd b F (S.planS l) (.int .i64 (S.planE l)) w) := by
  obtain ⟨φ, nm, lm, ov, pv, h⟩ := h
  obtain ⟨va, vc, rfl⟩ := hv.shape
  obtain ⟨-, -, -, c3, -, -⟩ := h.cells
  have H := Lib.hid h
  have HV := Lib.hid (hv.mono (G := fun _ => True) (fun _ _ => trivial))
  have hlt := h.lt b h.own
  clear h hv
  by_cases hm : l.length ≤ 1024
  · have hmI : ¬ (1024 : Int) < (l.length : Int) := by omega
    go_enter Tryz.func27, Tryz.ntmps27
    go_wp2_with fail
    go_loopw [5, 19] (fun u i wr => ∃ (q : Nat) (k : Int), q ≤ l.length ∧ u = .int .i64 k ∧ i = .int .i64 q ∧ Hid (Pl.planOk S.steps l = Pl.planOk k (l.drop q)) ∧ Hid (Below w.heap.size w wr)) (fun _ i _ => l.length - (intOf i).toNat)
    case atStart => exact ⟨0, S.steps, Nat.zero_le _, rfl, rfl, by show _ = _; rw [List.drop_zero], Below.refl _ _⟩
    case round =>
      obtain ⟨q, k, hq, rfl, rfl, hk, hb⟩ := hrel
      by_cases hql : q < l.length
      · obtain ⟨p, hp⟩ : ∃ p, l[q]? = some p := ⟨_, List.getElem?_eq_getElem hql⟩
        obtain ⟨g, off, rfl, -, hg, p0, p1, p2⟩ := HV.out.at_ hp
        have d0 : wr.cell? ⟨g, off + q * 3, none⟩ = some (.int .i64 p.1) := (hb.out.cell (p := ⟨g, off + q * 3, none⟩) hg).trans p0
        have d1 : wr.cell? ⟨g, off + q * 3 + 1, none⟩ = some (.int .i64 p.2.1) := (hb.out.cell (p := ⟨g, off + q * 3 + 1, none⟩) hg).trans p1
        have d2 : wr.cell? ⟨g, off + q * 3 + 2, none⟩ = some (.int .i64 p.2.2) := (hb.out.cell (p := ⟨g, off + q * 3 + 2, none⟩) hg).trans p2
        have hqI : (q : Int) < (l.length : Int) := by omega
        have hq0 : (0 : Int) ≤ (q : Int) := by omega
        obtain ⟨n1, n2⟩ := planOk_drop (S := S) hp hk.out
        obtain ⟨x, y, z⟩ := p
        have HN := Lib.hid (And.intro n1 n2)
        have HB := Lib.hid (fun o => hb.out.alloc hb.out.size o)
        clear p0 p1 p2 hp n1 n2
        simp only at d0 d1 d2
        by_cases h1 : x ≤ k
        · have hf : ¬ fineF k (x, y, z) := fun h => by have := h.1; simp only at this; omega
          have HR := Lib.hid (show S.planE l = 54 ∧ S.planS l = S from by
            have hno := HN.out.2 hf
            exact ⟨by unfold Dk.planE; rw [if_neg (by simp [hno])], by unfold Dk.planS; rw [if_neg (by simp [hno])]⟩)
          clear hf
          go_wp2
          go_ret
          exact ⟨by rw [HR.out.1]; rfl, by rw [HR.out.2]; exact Leaves.same (H.out.below (HB.out _)).disk (Wr.of_below (HB.out _))⟩
        by_cases h2 : y < 1
        · have hf : ¬ fineF k (x, y, z) := fun h => by have := h.2.1; simp only at this; omega
          have HR := Lib.hid (show S.planE l = 54 ∧ S.planS l = S from by
            have hno := HN.out.2 hf
            exact ⟨by unfold Dk.planE; rw [if_neg (by simp [hno])], by unfold Dk.planS; rw [if_neg (by simp [hno])]⟩)
          clear hf
          go_wp2
          go_ret
          exact ⟨by rw [HR.out.1]; rfl, by rw [HR.out.2]; exact Leaves.same (H.out.below (HB.out _)).disk (Wr.of_below (HB.out _))⟩
        by_cases h3 : 3 < y
        · have hf : ¬ fineF k (x, y, z) := fun h => by have := h.2.2.1; simp only at this; omega
          have HR := Lib.hid (show S.planE l = 54 ∧ S.planS l = S from by
            have hno := HN.out.2 hf
            exact ⟨by unfold Dk.planE; rw [if_neg (by simp [hno])], by unfold Dk.planS; rw [if_neg (by simp [hno])]⟩)
          clear hf
          go_wp2
          go_ret
          exact ⟨by rw [HR.out.1]; rfl, by rw [HR.out.2]; exact Leaves.same (H.out.below (HB.out _)).disk (Wr.of_below (HB.out _))⟩
        by_cases h4 : z < 0
        · have hf : ¬ fineF k (x, y, z) := fun h => by have := h.2.2.2.1; simp only at this; omega
          have HR := Lib.hid (show S.planE l = 54 ∧ S.planS l = S from by
            have hno := HN.out.2 hf
            exact ⟨by unfold Dk.planE; rw [if_neg (by simp [hno])], by unfold Dk.planS; rw [if_neg (by simp [hno])]⟩)
          clear hf
          go_wp2
          go_ret
          exact ⟨by rw [HR.out.1]; rfl, by rw [HR.out.2]; exact Leaves.same (H.out.below (HB.out _)).disk (Wr.of_below (HB.out _))⟩
        by_cases h5 : 0 < z
        · by_cases h6 : y = 2
          · subst h6
            have hf : fineF k (x, 2, z) := ⟨by simp only; omega, by simp only; omega, by simp only; omega, by simp only; omega, .inr rfl⟩
            have HK := Lib.hid (HN.out.1 hf)
            clear hf
            go_wp2
            go_roundw
            case rel => exact ⟨q + 1, x, by omega, by go_num, by go_num, HK.out, HB.out _⟩
            case measure => simp [intOf]; omega
          · have hf : ¬ fineF k (x, y, z) := fun h => by have := h.2.2.2.2; simp only at this; omega
            have h6' : (y == 2) = false := by rw [beq_eq_false_iff_ne]; exact h6
            have HR := Lib.hid (show S.planE l = 54 ∧ S.planS l = S from by
              have hno := HN.out.2 hf
              exact ⟨by unfold Dk.planE; rw [if_neg (by simp [hno])], by unfold Dk.planS; rw [if_neg (by simp [hno])]⟩)
            clear hf
            go_wp2
            go_ret
            exact ⟨by rw [HR.out.1]; rfl, by rw [HR.out.2]; exact Leaves.same (H.out.below (HB.out _)).disk (Wr.of_below (HB.out _))⟩
        · have hf : fineF k (x, y, z) := ⟨by simp only; omega, by simp only; omega, by simp only; omega, by simp only; omega, .inl (by simp only; omega)⟩
          have HK := Lib.hid (HN.out.1 hf)
          clear hf
          go_wp2
          go_roundw
          case rel => exact ⟨q + 1, x, by omega, by go_num, by go_num, HK.out, HB.out _⟩
          case measure => simp [intOf]; omega
      · obtain rfl : q = l.length := by omega
        have HR := Lib.hid (show S.planE l = 0 ∧ S.planS l = { S with plan := l } from by
          have hyes : Pl.planOk S.steps l = true := by have := hk.out; rwa [List.drop_length] at this
          exact ⟨by unfold Dk.planE; rw [if_pos ⟨hm, hyes⟩], by unfold Dk.planS; rw [if_pos ⟨hm, hyes⟩]⟩)
        have HC := Lib.hid (clonef_any l _ wr (HV.out.same hb.out.size fun k cur fz _ hk => hb.out.block k (Array.getElem?_eq_some_iff.1 hk).1) hl)
        clear hk
        go_wp2_with fail
        (refine HC.out.mono ?_; rintro e w5 ⟨ca, cc, rfl, r5, b5⟩)
        have hd5 := (H.out.below hb.out).below b5
        obtain ⟨-, -, -, -, q4, -⟩ := hd5.cells
        have g4 := hd5.free 4
        have H5 := Lib.hid (And.intro (hd5.setPlan r5) (And.intro hd5.own (And.intro hb.out b5)))
        clear hd5 r5 b5
        go_wp2
        go_ret
        refine ⟨by rw [HR.out.1]; rfl, ?_⟩
        rw [HR.out.2]
        have hsz := H5.out.2.2.1.size
        exact ⟨_, ⟨φ, H5.out.1.disk⟩, fun k hk => Or.imp id (fun e => by omega) hk, ((Wr.of_below H5.out.2.2.1).trans (Wr.of_below H5.out.2.2.2) (Grew.refl _ _)).setCell (p := ⟨b, 4, none⟩) H5.out.2.1 _⟩
  · have HR := Lib.hid (show S.planE l = 54 ∧ S.planS l = S from ⟨by unfold Dk.planE; rw [if_neg (fun h => hm h.1)], by unfold Dk.planS; rw [if_neg (fun h => hm h.1)]⟩)
    have hmI : (1024 : Int) < (l.length : Int) := by omega
    go_enter Tryz.func27, Tryz.ntmps27
    go_wp2
    go_ret
    exact ⟨by rw [HR.out.1]; rfl, by rw [HR.out.2]; exact Leaves.same H.out.disk (Wr.refl _ _)⟩
end Go.Proofs.YtfbjmhipjfjaeaaGreatDoor
