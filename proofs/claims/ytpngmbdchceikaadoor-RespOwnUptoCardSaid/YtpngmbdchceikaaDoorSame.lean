/- Same, SameList: of one reply in two places. -/
import Derived.Test.YtpngmbdchceikaaDoorMayR
import Derived.Deep.RegionHeld3
namespace Go.Proofs.YtpngmbdchceikaaDoor
open Go.ChangeShapes Go.WideShapes Go.ChangeAt Go.RowKit
open Pl (R)
set_option linter.unusedVariables false

/-- Same says yes of r. -/
def SameOk (r : R) : Prop := ∀ (lv lv' : Value) (F F' : Nat → Prop) (w : World), OkR r → LIs F w lv r.l → LIs F' w lv' r.l → Calls Tryd.prog 18 #[rv r lv, rv r lv'] w fun e w' => e = .returned (.bool true) ∧ Below w.heap.size w w'
set_option maxRecDepth 100000 in
set_option maxHeartbeats 1600000 in
theorem sameList_of (l : List R) (hl : l.length ≤ 1073741824) (ih : ∀ r ∈ l, SameOk r) (lv lv' : Value) (F F' : Nat → Prop) (w : World) (hL : LIs F w lv l) (hL' : LIs F' w lv' l) : Calls Tryd.prog 25 #[lv, lv'] w fun e w' => e = .returned (.bool true) ∧ Below w.heap.size w w' := by
  obtain ⟨ao, cp, rfl⟩ := hL.shape
  obtain ⟨ao', cp', rfl⟩ := hL'.shape
  have HL := Lib.hid hL
  have HL' := Lib.hid hL'
  have IH := Lib.hid ih
  clear hL hL' ih
  go_enter Tryd.func25, Tryd.ntmps25
  go_wp2
  go_loopw [5] (fun i wr => ∃ j : Nat, j ≤ l.length ∧ i = .int .i64 j ∧ Below w.heap.size w wr) (fun i _ => l.length - (intOf i).toNat)
  case atStart => exact ⟨0, Nat.zero_le _, rfl, Below.refl _ _⟩
  case round =>
    obtain ⟨j, hj, rfl, hb⟩ := hrel
    by_cases hlt : j < l.length
    · have hLr := HL.out.later hb
      have hLr' := HL'.out.later hb
      obtain ⟨g, off, r, lv, rfl, hg, hr, hok, k0, k1, k2, k3, hLe⟩ := hLr.at hlt
      obtain ⟨g', off', r', lv', rfl, hg', hr', hok', k0', k1', k2', k3', hLe'⟩ := hLr'.at hlt
      obtain rfl : r = r' := Option.some.inj (hr.symm.trans hr')
      clear hLr hLr' hr' hok'
      have HS := Lib.hid (IH.out r (List.mem_of_getElem? hr) lv lv' F F')
      obtain ⟨aj, cj, rfl⟩ := hLe.shape
      obtain ⟨aj', cj', rfl⟩ := hLe'.shape
      have HE := Lib.hid hLe
      have HE' := Lib.hid hLe'
      have hcell : ∀ {p : Addr} {v : Value}, p.block < wr.heap.size → wr.cell? p = some v → ∀ W, Below wr.heap.size wr W → W.cell? p = some v := fun hp h W hW => (hW.cell hp).trans h
      have KC := Lib.hid (show ∀ W, Below wr.heap.size wr W → W.cell? ⟨g, off + j * 4, none⟩ = some (.int .i64 r.k) ∧ W.cell? ⟨g, off + j * 4 + 1, none⟩ = some (.string (str r.t)) ∧ W.cell? ⟨g, off + j * 4 + 2, none⟩ = some (.int .i64 r.n) ∧ W.cell? ⟨g, off + j * 4 + 3, none⟩ = some (.slice aj r.l.length cj) ∧ W.cell? ⟨g', off' + j * 4, none⟩ = some (.int .i64 r.k) ∧ W.cell? ⟨g', off' + j * 4 + 1, none⟩ = some (.string (str r.t)) ∧ W.cell? ⟨g', off' + j * 4 + 2, none⟩ = some (.int .i64 r.n) ∧ W.cell? ⟨g', off' + j * 4 + 3, none⟩ = some (.slice aj' r.l.length cj') from
        fun W h => ⟨hcell hg k0 W h, hcell hg k1 W h, hcell hg k2 W h, hcell hg k3 W h, hcell hg' k0' W h, hcell hg' k1' W h, hcell hg' k2' W h, hcell hg' k3' W h⟩)
      have hr2 := Lib.hid hr
      clear hLe hLe' hcell k0 k1 k2 k3 k0' k1' k2' k3' hr
      have d0 : ((j : Nat) : Int) < ((l.length : Nat) : Int) := by omega
      go_wp2
      refine wp_region_held_drew (S := (fun W => Below wr.heap.size wr W ∧ W.cell? ⟨g, off + j * 4, none⟩ = some (.int .i64 r.k) ∧ W.cell? ⟨g, off + j * 4 + 1, none⟩ = some (.string (str r.t)) ∧ W.cell? ⟨g, off + j * 4 + 2, none⟩ = some (.int .i64 r.n) ∧ W.cell? ⟨g, off + j * 4 + 3, none⟩ = some (.slice aj r.l.length cj) ∧ W.cell? ⟨g', off' + j * 4, none⟩ = some (.int .i64 r.k) ∧ W.cell? ⟨g', off' + j * 4 + 1, none⟩ = some (.string (str r.t)) ∧ W.cell? ⟨g', off' + j * 4 + 2, none⟩ = some (.int .i64 r.n) ∧ W.cell? ⟨g', off' + j * 4 + 3, none⟩ = some (.slice aj' r.l.length cj'))) (by kernel_rfl) ?_ (fun hHeld => ?_)
      · refine (fun h => And.intro h (KC.out _ h)) ?_; first | assumption | exact Below.refl _ _ | exact (Below.refl _ _).drew | exact hHeld.1.trans (bx.mono hHeld.1.size) | exact hHeld.1.trans ((bx.mono hHeld.1.size).drew) | exact Below.drew ‹_›
      refine wpAnyH_take (i := 0) (oi := (Go.Oper.mk (some 17) (Go.Op.move (Go.Operand.tmp 0)) 22 _ #[] none)) (v := ?_) rfl (by kernel_rfl) (by kernel_rfl) (by kernel_rfl) (fun _ _ _ h => h) (Or.inl ⟨by rfl, ?_⟩) hHeld ?_
      rotate_left
      · intro w hSw; (try dsimp only at hSw); go_simp; (try with_reducible rfl)
      simp only [Act.put, List.setIfInBounds_toArray, List.set_cons_zero, List.set_cons_succ]
      refine wpAnyH_take (i := 1) (oi := (Go.Oper.mk (some 18) (Go.Op.move (Go.Operand.tmp 5)) 3 _ #[] none)) (v := ?_) rfl (by kernel_rfl) (by kernel_rfl) (by kernel_rfl) (fun _ _ _ h => h) (Or.inl ⟨by rfl, ?_⟩) hHeld ?_
      rotate_left
      · intro w hSw; (try dsimp only at hSw); go_simp; (try with_reducible rfl)
      simp only [Act.put, List.setIfInBounds_toArray, List.set_cons_zero, List.set_cons_succ]
      refine wpAnyH_take (i := 2) (oi := (Go.Oper.mk (some 19) (Go.Op.indexAddr 22 (Go.Operand.tmp 17) (Go.Operand.tmp 18)) 0 _ #[Go.Edge.mk 0 Go.Ground.data, Go.Edge.mk 1 Go.Ground.data] none)) (v := ?_) rfl (by kernel_rfl) (by kernel_rfl) (by kernel_rfl) (fun _ _ _ h => h) (Or.inl ⟨by rfl, ?_⟩) hHeld ?_
      rotate_left
      · intro w hSw; (try dsimp only at hSw); go_simp; (try with_reducible rfl)
      simp only [Act.put, List.setIfInBounds_toArray, List.set_cons_zero, List.set_cons_succ]
      refine wpAnyH_take (i := 3) (oi := (Go.Oper.mk (some 20) (Go.Op.load 24 (Go.Operand.tmp 19)) 24 _ #[Go.Edge.mk 2 Go.Ground.data] none)) (v := ?_) rfl (by kernel_rfl) (by kernel_rfl) (by kernel_rfl) (fun _ _ _ h => h) (Or.inl ⟨by rfl, ?_⟩) hHeld ?_
      rotate_left
      · intro w hSw; (try dsimp only at hSw); go_simp; (try with_reducible rfl)
      simp only [Act.put, List.setIfInBounds_toArray, List.set_cons_zero, List.set_cons_succ]
      refine wpAnyH_take (i := 4) (oi := (Go.Oper.mk (some 21) (Go.Op.move (Go.Operand.tmp 1)) 22 _ #[] none)) (v := ?_) rfl (by kernel_rfl) (by kernel_rfl) (by kernel_rfl) (fun _ _ _ h => h) (Or.inl ⟨by rfl, ?_⟩) hHeld ?_
      rotate_left
      · intro w hSw; (try dsimp only at hSw); go_simp; (try with_reducible rfl)
      simp only [Act.put, List.setIfInBounds_toArray, List.set_cons_zero, List.set_cons_succ]
      refine wpAnyH_take (i := 5) (oi := (Go.Oper.mk (some 22) (Go.Op.move (Go.Operand.tmp 5)) 3 _ #[] none)) (v := ?_) rfl (by kernel_rfl) (by kernel_rfl) (by kernel_rfl) (fun _ _ _ h => h) (Or.inl ⟨by rfl, ?_⟩) hHeld ?_
      rotate_left
      · intro w hSw; (try dsimp only at hSw); go_simp; (try with_reducible rfl)
      simp only [Act.put, List.setIfInBounds_toArray, List.set_cons_zero, List.set_cons_succ]
      refine wpAnyH_take (i := 6) (oi := (Go.Oper.mk (some 23) (Go.Op.indexAddr 22 (Go.Operand.tmp 21) (Go.Operand.tmp 22)) 0 _ #[Go.Edge.mk 4 Go.Ground.data, Go.Edge.mk 5 Go.Ground.data] none)) (v := ?_) rfl (by kernel_rfl) (by kernel_rfl) (by kernel_rfl) (fun _ _ _ h => h) (Or.inl ⟨by rfl, ?_⟩) hHeld ?_
      rotate_left
      · intro w hSw; (try dsimp only at hSw); go_simp; (try with_reducible rfl)
      simp only [Act.put, List.setIfInBounds_toArray, List.set_cons_zero, List.set_cons_succ]
      refine wpAnyH_take (i := 7) (oi := (Go.Oper.mk (some 24) (Go.Op.load 24 (Go.Operand.tmp 23)) 24 _ #[Go.Edge.mk 6 Go.Ground.data] none)) (v := ?_) rfl (by kernel_rfl) (by kernel_rfl) (by kernel_rfl) (fun _ _ _ h => h) (Or.inl ⟨by rfl, ?_⟩) hHeld ?_
      rotate_left
      · intro w hSw; (try dsimp only at hSw); go_simp; (try with_reducible rfl)
      simp only [Act.put, List.setIfInBounds_toArray, List.set_cons_zero, List.set_cons_succ]
      refine wpAnyH_ready (rs := [8]) (by kernel_rfl) (by simp) ?_
      refine AllReadyH.cons (o := (Go.Oper.mk (some 25) (Go.Op.call (Go.Call.mk (Go.Callee.value (Go.Operand.func 18)) #[Go.Operand.tmp 20, Go.Operand.tmp 24] #[24, 24])) 4 _ #[Go.Edge.mk 3 Go.Ground.data, Go.Edge.mk 7 Go.Ground.data] none)) rfl (fun K hK => ?_) AllReadyH.nil
      go_simp
      (with_reducible refine (HS.out _ hok (HE.out.later ?_) (HE'.out.later ?_)).mono ?_); (first | assumption | exact hHeld.1 | exact hHeld.1.drew); (first | assumption | exact hHeld.1 | exact hHeld.1.drew); rintro e wx ⟨rfl, bx⟩
      go_wp2_with fail
      refine hK.out _ _ ?_ (fun hHeld => ?_)
      · refine (fun h => And.intro h (KC.out _ h)) ?_; first | assumption | exact Below.refl _ _ | exact (Below.refl _ _).drew | exact hHeld.1.trans (bx.mono hHeld.1.size) | exact hHeld.1.trans ((bx.mono hHeld.1.size).drew) | exact Below.drew ‹_›
      clear hK K
      (try simp only [Act.put, List.setIfInBounds_toArray, List.set_cons_zero, List.set_cons_succ])
      refine wpAnyH_take (i := 9) (oi := (Go.Oper.mk (some 26) (Go.Op.unOp Go.UnOp.not 4 (Go.Operand.tmp 25)) 4 _ #[Go.Edge.mk 8 Go.Ground.data] none)) (v := ?_) rfl (by kernel_rfl) (by kernel_rfl) (by kernel_rfl) (fun _ _ _ h => h) (Or.inl ⟨by rfl, ?_⟩) hHeld ?_
      rotate_left
      · intro w hSw; (try dsimp only at hSw); go_simp; (try with_reducible rfl)
      simp only [Act.put, List.setIfInBounds_toArray, List.set_cons_zero, List.set_cons_succ]
      refine wpAnyH_done (by kernel_rfl) ?_ _
      go_wp2
      go_roundw
      case rel => exact ⟨j + 1, by omega, by go_num, hb.trans (hHeld.1.mono hb.size)⟩
      case measure => simp [intOf]; omega
    · obtain rfl : j = l.length := by omega
      go_wp2
      go_ret
      exact ⟨rfl, hb⟩
set_option maxRecDepth 100000 in
set_option maxHeartbeats 1600000 in
theorem same_of (k : Int) (t : List UInt8) (n : Int) (l : List R) (ih : ∀ r ∈ l, SameOk r) : SameOk (.mk k t n l) := by
  intro lv lv' F F' w hok hL hL'
  replace hL : LIs F w lv l := hL
  replace hL' : LIs F' w lv' l := hL'
  obtain ⟨ao, cp, rfl⟩ := hL.shape
  obtain ⟨ao', cp', rfl⟩ := hL'.shape
  have HH := Lib.hid (fun W (hb : Below w.heap.size w W) => sameList_of l hok.2.2.2 ih _ _ F F' W (hL.later hb) (hL'.later hb))
  have hb2 : Below w.heap.size w ((w.alloc (.cells #[.int .i64 k, .string (str t), .int .i64 n, .slice ao l.length cp] 24)).alloc (.cells #[.int .i64 k, .string (str t), .int .i64 n, .slice ao' l.length cp'] 24)) := ((Below.refl _ _).alloc (Nat.le_refl _) _).alloc (by simp) _
  have HB2 := Lib.hid hb2
  show Calls Tryd.prog 18 #[.agg #[.int .i64 k, .string (str t), .int .i64 n, .slice ao l.length cp], .agg #[.int .i64 k, .string (str t), .int .i64 n, .slice ao' l.length cp']] w _
  clear hL hL' ih hok hb2
  go_enter Tryd.func18, Tryd.ntmps18
  go_wp2_with fail
  ((with_reducible refine (HH.out _ HB2.out).mono ?_); rintro e w5 ⟨rfl, b5⟩)
  go_wp2
  go_ret
  exact ⟨rfl, HB2.out.trans (b5.mono HB2.out.size)⟩
theorem same_any : ∀ (r : R), SameOk r
  | .mk k t n l => same_of k t n l fun r hr => same_any r
theorem sameList_any (l : List R) (hl : l.length ≤ 1073741824) (lv lv' : Value) (F F' : Nat → Prop) (w : World) (hL : LIs F w lv l) (hL' : LIs F' w lv' l) : Calls Tryd.prog 25 #[lv, lv'] w fun e w' => e = .returned (.bool true) ∧ Below w.heap.size w w' :=
  sameList_of l hl (fun r _ => same_any r) lv lv' F F' w hL hL'
end Go.Proofs.YtpngmbdchceikaaDoor
