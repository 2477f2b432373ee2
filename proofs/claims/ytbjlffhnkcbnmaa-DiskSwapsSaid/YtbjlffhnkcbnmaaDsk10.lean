/- The disk of the program: what is told of names. -/
import Derived.Test.YtbjlffhnkcbnmaaDsk9
import Derived.Test.YtbjlffhnkcbnmaaDZat
namespace Go.Proofs.Ytbjlffhnkcbnmaa
open Go.ChangeShapes Go.WideShapes Go.ChangeAt Go.RowKit Go.Maps Go.Sort Go.Shelf
open Pl (Tx Fl Ch Nm Dk)
set_option linter.unusedVariables false

def textsB (l : List (List UInt8)) : List ByteArray := l.map str
theorem textsB_length (l : List (List UInt8)) : (textsB l).length = l.length := by simp [textsB]
/-- The iterator over a map's keys: a function value over one new block. -/
theorem keys_iter (mb : Option Nat) (W : World) : Calls Try.prog 34 #[.map mb] W fun e w' => e = .returned (.func (.func 53) #[] #[.pointer (some ⟨W.heap.size, 0, none⟩)]) ∧ w' = W.alloc (.cells #[.map mb] 66) :=
  callsIn_wide.1 (AnyZ.keys_in Try.keys34 Fence.wide 5 trivial rfl mb W)
theorem sorts_in (m : Nat) : AnyZ.SortsIn Try.prog Try.sorted33_ren Fence.wide m :=
  ⟨fun blk off cap ss W hH hblk hsz => callsIn_wide.2 (AnyM.slices_Sort_string Try.sort52 blk off cap ss W hH hblk hsz),
   fun p cap W => callsIn_wide.2 (AnyM.slices_Sort_string_none Try.sort52 p cap W)⟩
set_option maxHeartbeats 1000000 in
/-- The keys that it gives, sorted. -/
theorem sorted_keys {H : Type} (b nn : Nat) (D0 : DataW H) (R : Value → Option (DataW H × List MemPlace)) (w : World) (hown : w.ownsMap Try.prog 9 R b nn D0) (hmax : Maps.size D0 ≤ maxLen) (hbytes : Maps.size D0 * 16 ≤ 140737488355328) :
    Calls Try.prog 33 #[.func (.func 53) #[] #[.pointer (some ⟨w.heap.size, 0, none⟩)]] (w.alloc (.cells #[.map (some b)] 66)) fun e w' => ∃ (v : Value) (ss : List (List UInt8)), e = .returned v ∧ ss.Perm (strKeys D0) ∧
      w'.ownsRow (w.alloc (.cells #[.map (some b)] 66)).heap.size 9 1 v ss.length ((ss.mergeSort (fun x y => decide (x ≤ y))).map encStr) ∧ (v = .slice none 0 0 ↔ ss = []) ∧ Below (w.alloc (.cells #[.map (some b)] 66)).heap.size (w.alloc (.cells #[.map (some b)] 66)) w' := by
  have hbl := hown.lt
  have hseq : SeqGives Fence.wide 2 Try.prog 53 #[.pointer (some ⟨w.heap.size, 0, none⟩)] encStr (fun ss => ss.Perm (strKeys D0)) (Maps.size D0) (w.alloc (.cells #[.map (some b)] 66)) :=
    AnyZ.keys_gives (ρ := Try.keys34_ren) { Try.keys34 with } Fence.wide _ trivial rfl (by omega) w.heap.size b nn D0 _ (by simp) (by simp) (by
      obtain ⟨es, clock, hb, Ft, hs, hD⟩ := hown
      exact ⟨es, clock, (Below.heap_alloc _ _ b hbl).trans hb, Ft, hs, hD⟩)
  exact callsIn_wide.1 (AnyZ.sorted_in Try.sorted33 Fence.wide 5 trivial trivial trivial trivial rfl (by omega) (sorts_in _) (enters_of Try.func52 (by kernel_rfl) rfl) 53 #[.pointer (some ⟨w.heap.size, 0, none⟩)] trivial (enters_of Try.func53 (by kernel_rfl) rfl) _ _ hmax hbytes _ hseq)
/-- The names of a list, as a map tells them. -/
def Pl.keys (l : Nm) : List Tx := l.map (·.1)
theorem keys_sorted {l : Nm} (h : Pl.RisN l) : (Pl.keys l).Pairwise (fun a b => decide (a ≤ b) = true) := by
  unfold Pl.keys
  rw [List.pairwise_map]
  exact h.imp fun {a b} hab => by
    have : a.1 ≤ b.1 := List.not_lt.1 (Pl.ltA hab)
    simpa using this
theorem keys_nodup {l : Nm} (h : Pl.RisN l) : (Pl.keys l).Nodup := by
  unfold Pl.keys List.Nodup
  rw [List.pairwise_map]
  exact h.imp fun {a b} hab => Pl.ltN hab
theorem FilesAre.perm {w : World} {b n : Nat} {D : DataW Unit} {φ : Nat → Nat} {l : Nm} (h : FilesAre D φ l) (hr : Pl.RisN l) (hown : ownsP w b n D) : (Pl.keys l).Perm (strKeys D) :=
  Collected.perm (left := fun _ => false) ⟨keys_nodup hr, fun x => by
    have hh := h.has x
    constructor
    · intro hx
      refine ⟨?_, rfl⟩
      obtain ⟨p, hp, rfl⟩ := List.mem_map.1 hx
      rw [show (Lit.string p.1) = litB p.1 from rfl, hh, Pl.find_of_mem hr (show (p.1, p.2) ∈ l from hp)]; rfl
    · rintro ⟨hx, -⟩
      rw [show (Lit.string x) = litB x from rfl, hh] at hx
      obtain ⟨f, hf⟩ := Option.isSome_iff_exists.1 hx
      exact List.mem_map.2 ⟨_, Pl.find_mem hf, rfl⟩⟩ hown strKeyed Try.underlying9 (fun _ => rfl)
def ToldEnd (l : Nm) (w : World) (e : Ending) (w' : World) : Prop := ∃ v, e = .returned v ∧ ZRow w.heap.size w' v (textsB (Pl.keys l)) ∧ Below w.heap.size w w'
theorem sorted_names {w : World} {b : Nat} {φ : Nat → Nat} {l : Nm} (hm : FMap w b φ l) (hr : Pl.RisN l) (hl : l.length ≤ 32768) :
    Calls Try.prog 33 #[.func (.func 53) #[] #[.pointer (some ⟨w.heap.size, 0, none⟩)]] (w.alloc (.cells #[.map (some b)] 66)) (ToldEnd l w) := by
  obtain ⟨D, hown, hf⟩ := hm
  have hsz := hf.size
  refine (sorted_keys b _ D ptrE w hown (by unfold maxLen; omega) (by omega)).mono ?_
  rintro e w2 ⟨v, ss, rfl, hp, hrow, -, hb⟩
  have hpp := hf.perm hr hown
  have hms : (ss.mergeSort (fun x y => decide (x ≤ y))) = Pl.keys l := (mergeSort_of_perm (hp.trans hpp.symm)).trans (List.mergeSort_of_pairwise (keys_sorted hr))
  have hlen : ss.length = (Pl.keys l).length := (hp.trans hpp.symm).length_eq
  refine ⟨v, rfl, ZRow.of_owns (C := (w.alloc (.cells #[.map (some b)] 66)).heap.size) (n := ss.length) ?_ (by rw [textsB_length, hlen]) (fun g hg => by have := (hrow.lt g hg).1; simp at this; omega), ((Below.refl w.heap.size w).alloc (Nat.le_refl _) _).trans (hb.mono (by simp))⟩
  have : (textsB (Pl.keys l)).map Value.string = (ss.mergeSort (fun x y => decide (x ≤ y))).map encStr := by
    rw [hms]; simp [textsB, Function.comp_def, str]
  rw [this]; exact hrow
set_option maxRecDepth 100000 in
set_option maxHeartbeats 1600000 in
theorem names_any {w : World} {b j : Nat} {F : Nat → Prop} {S : Dk} (h : Dsk w b F S) (hI : S.Inv) (hS : S.Small j) (hj : j ≤ 32768) :
    Calls Try.prog 13 #[.pointer (some ⟨b, 0, none⟩)] w (ToldEnd (if S.down = true then [] else S.names) w) := by
  obtain ⟨φ, nm, lm, ov, pv, h⟩ := h
  obtain ⟨c0, -, -, -, -, c5⟩ := h.cells
  cases hd : S.down with
  | true =>
    rw [hd] at c5
    rw [if_pos rfl]
    clear h hd
    go_enter Try.func13, Try.ntmps13
    go_wp2
    go_ret
    exact ⟨_, rfl, .inl ⟨rfl, rfl⟩, Below.refl _ _⟩
  | false =>
    rw [hd] at c5
    rw [if_neg (by simp)]
    have HN := Lib.hid (sorted_names h.names hI.good.ris (by have := hI.good.few; have := hS.files; omega))
    clear h hd
    go_enter Try.func13, Try.ntmps13
    go_wp2_with fail
    (refine (keys_iter _ _).mono ?_; rintro e w1 ⟨rfl, rfl⟩)
    go_wp2_with fail
    (refine HN.out.mono ?_; rintro e w2 ⟨v, rfl, z, bl⟩)
    have HZ := Lib.hid (And.intro z bl)
    obtain ⟨va, vc, rfl⟩ := z.shape
    clear z bl
    go_wp2
    go_ret
    exact ⟨_, rfl, HZ.out.1, HZ.out.2⟩
set_option maxRecDepth 100000 in
set_option maxHeartbeats 1600000 in
theorem lasting_any {w : World} {b j : Nat} {F : Nat → Prop} {S : Dk} (h : Dsk w b F S) (hI : S.Inv) (hS : S.Small j) (hj : j ≤ 32768) :
    Calls Try.prog 19 #[.pointer (some ⟨b, 0, none⟩)] w (ToldEnd (if S.down = true then [] else S.last) w) := by
  obtain ⟨φ, nm, lm, ov, pv, h⟩ := h
  obtain ⟨-, c0, -, -, -, c5⟩ := h.cells
  cases hd : S.down with
  | true =>
    rw [hd] at c5
    rw [if_pos rfl]
    clear h hd
    go_enter Try.func19, Try.ntmps19
    go_wp2
    go_ret
    exact ⟨_, rfl, .inl ⟨rfl, rfl⟩, Below.refl _ _⟩
  | false =>
    rw [hd] at c5
    rw [if_neg (by simp)]
    have HN := Lib.hid (sorted_names h.last hI.last.ris (by have := hI.last.few; have := hS.files; omega))
    clear h hd
    go_enter Try.func19, Try.ntmps19
    go_wp2_with fail
    (refine (keys_iter _ _).mono ?_; rintro e w1 ⟨rfl, rfl⟩)
    go_wp2_with fail
    (refine HN.out.mono ?_; rintro e w2 ⟨v, rfl, z, bl⟩)
    have HZ := Lib.hid (And.intro z bl)
    obtain ⟨va, vc, rfl⟩ := z.shape
    clear z bl
    go_wp2
    go_ret
    exact ⟨_, rfl, HZ.out.1, HZ.out.2⟩
set_option maxHeartbeats 400000 in
theorem steps_any {w : World} {b : Nat} {F : Nat → Prop} {S : Dk} (h : Dsk w b F S) :
    Calls Try.prog 25 #[.pointer (some ⟨b, 0, none⟩)] w fun e w' => e = .returned (.int .i64 S.steps) ∧ w = w' := by
  obtain ⟨φ, nm, lm, ov, pv, h⟩ := h
  obtain ⟨-, -, -, c3, -, -⟩ := h.cells
  go_enter Try.func25, Try.ntmps25
  go_wp2
  go_ret
  exact ⟨rfl, rfl⟩
set_option maxHeartbeats 400000 in
theorem down_any {w : World} {b : Nat} {F : Nat → Prop} {S : Dk} (h : Dsk w b F S) :
    Calls Try.prog 24 #[.pointer (some ⟨b, 0, none⟩)] w fun e w' => e = .returned (.bool S.down) ∧ w = w' := by
  obtain ⟨φ, nm, lm, ov, pv, h⟩ := h
  obtain ⟨-, -, -, -, -, c5⟩ := h.cells
  go_enter Try.func24, Try.ntmps24
  go_wp2
  go_ret
  exact ⟨rfl, rfl⟩
def NewEnd (w : World) (e : Ending) (w' : World) : Prop := ∃ b F, e = .returned (.pointer (some ⟨b, 0, none⟩)) ∧ Dsk w' b F Dk.new ∧ (∀ k, F k → w.heap.size ≤ k) ∧ Below w.heap.size w w'
theorem disk_fresh (w : World) : Dsk (((w.alloc (.map #[] 0)).alloc (.map #[] 0)).alloc (.cells #[.map (some w.heap.size), .map (some (w.heap.size + 1)), .slice none 0 0, .int .i64 0, .slice none 0 0, .bool false] 69)) (w.heap.size + 2)
    (fun k => k = w.heap.size ∨ k = w.heap.size + 1 ∨ k = w.heap.size + 2) Dk.new := by
  have hz1 : (w.alloc (.map #[] 0)).heap.size = w.heap.size + 1 := by simp
  have hz2 : ((w.alloc (.map #[] 0)).alloc (.map #[] 0)).heap.size = w.heap.size + 2 := by simp
  have hm1 := FMap.made w (fun _ => 0)
  have hm2 := FMap.made (w.alloc (.map #[] 0)) (fun _ => 0)
  rw [hz1] at hm2
  have al : ∀ (W : World) (o : Obj), Wr (fun _ => False) W (W.alloc o) := fun W o => (Wr.refl _ W).alloc o
  refine ⟨fun _ => 0, w.heap.size, w.heap.size + 1, .slice none 0 0, .slice none 0 0, ?_⟩
  exact {
    lt := fun k hk => by rcases hk with rfl | rfl | rfl <;> simp <;> omega
    own := .inr (.inr rfl)
    ownN := .inl rfl
    ownL := .inr (.inl rfl)
    ne := by omega
    block := by
      have := heap_alloc_new ((w.alloc (.map #[] 0)).alloc (.map #[] 0)) (.cells #[.map (some w.heap.size), .map (some (w.heap.size + 1)), .slice none 0 0, .int .i64 0, .slice none 0 0, .bool false] 69)
      rw [hz2] at this
      exact this
    names := (hm1.kept (al _ _) id).kept (al _ _) id
    last := hm2.kept (al _ _) id
    files := fun i f hf => by simp [Dk.new] at hf
    inj := fun i j hi => by simp [Dk.new] at hi
    opn := RowC.nil _ _ _ _
    plan := PRow.nil _ _ }
set_option maxHeartbeats 400000 in
theorem new_any (w : World) : Calls Try.prog 9 #[] w (NewEnd w) := by
  have hmm := @run_makeMap Try.prog
  go_enter Try.func9, Try.ntmps9
  go_wp2
  go_ret
  exact ⟨w.heap.size + 2, _, rfl, disk_fresh w, fun k hk => by rcases hk with rfl | rfl | rfl <;> omega, (((Below.refl _ _).alloc (Nat.le_refl _) _).alloc (by simp) _).alloc (by simp; omega) _⟩
end Go.Proofs.Ytbjlffhnkcbnmaa
