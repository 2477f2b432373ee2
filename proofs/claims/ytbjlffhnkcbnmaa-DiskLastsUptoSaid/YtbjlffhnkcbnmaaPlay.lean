/- A script on a disk. -/
import Derived.Test.YtbjlffhnkcbnmaaDiskStopsW
import Derived.Test.YtbjlffhnkcbnmaaPlainLast
namespace Go.Proofs.Ytbjlffhnkcbnmaa
open Go.ChangeShapes Go.WideShapes Go.ChangeAt Go.RowKit Go.Maps Pl
set_option linter.unusedVariables false
set_option linter.unusedSimpArgs false

theorem doS_ne {S : Dk} (h : NE S) (hI : S.Inv) (a : Dd) : NE (doS S a) := by
  have like : ∀ {T : Dk}, T.last = S.last → NE T := fun e => by unfold NE; rw [e]; exact h
  unfold doS
  split
  · unfold Dk.createS; split; exact h; split; exact h; exact like rfl
  split
  · unfold Dk.appendS; split; exact h; exact like rfl
  split
  · unfold Dk.truncS; split; exact h; split; exact h; exact like rfl
  split
  · unfold Dk.syncS; split; exact h; split; exact h; exact like rfl
  split
  · unfold Dk.renameS; split; exact h; split; exact h; exact like rfl
  split
  · unfold Dk.removeS; split; exact h; split; exact h; exact like rfl
  split
  · unfold Dk.namesS; split; exact h; split; exact h
    exact fun p hp => h.names hI p hp
  split
  · unfold Dk.planS; split; exact like rfl; exact h
  split
  · exact fun p hp => h.left hI a.k p hp
  exact h
set_option maxRecDepth 100000 in
set_option maxHeartbeats 6400000 in
theorem play_any {w0 w : World} {b : Nat} {F : Nat → Prop} (d : Dsk w b F Dk.new) (hF : ∀ k, F k → w0.heap.size ≤ k) (hb : Below w0.heap.size w0 w) (v : Value) (ds : List Dd) (hds : ∀ a ∈ ds, a.Ok) (hdl : ds.length ≤ 1048576) {K : Nat → Prop} (hK : ∀ k, K k → k < w0.heap.size) (hv : DdRow w0 K v ds) :
    Calls Try.prog 11 #[.pointer (some ⟨b, 0, none⟩), v] w fun e w' => e = .returned (.tuple #[]) ∧ ∃ c S, Duo (fun _ => False) w0 w' b c S S ∧ S.Inv ∧ S.Small ds.length ∧ NE S := by
  obtain ⟨va, vc, rfl⟩ := hv.shape
  have HV := Lib.hid hv
  have HDS := Lib.hid hds
  have HK := Lib.hid hK
  have HD3 := Lib.hid (duo_new d hF hb)
  clear hv hds hK d hF hb
  go_enter Try.func11, Try.ntmps11
  go_wp2_with fail
  have hg3 : w.alloc rNew = w.alloc (.cells #[.slice none 0 0, .slice none 0 0, .slice none 0 0, .slice none 0 0, .slice none 0 0, .int .i64 0, .bool false] 52) := rfl
  rw [← hg3]
  obtain ⟨c, hc⟩ : ∃ c, c = w.heap.size := ⟨_, rfl⟩
  rw [← hc] at HD3 ⊢
  obtain ⟨w3, hw3⟩ : ∃ w3, w3 = w.alloc rNew := ⟨_, rfl⟩
  rw [← hw3] at HD3 ⊢
  clear hg3 hw3 hc
  go_loopw [5] (fun i wr => ∃ (q : Nat) (S : Dk), q ≤ ds.length ∧ i = .int .i64 q ∧ Hid (Duo (fun _ => False) w0 wr b c S S) ∧ Hid S.Inv ∧ Hid (S.Small q) ∧ Hid (NE S)) (fun i _ => ds.length - (intOf i).toNat)
  case atStart => exact ⟨0, Dk.new, Nat.zero_le _, rfl, HD3.out, Dk.Inv.new, Dk.Small.new, fun p hp => by simp [Dk.new] at hp⟩
  case round =>
    obtain ⟨q, S, hq, rfl, hd, hI, hS, hN⟩ := hrel
    by_cases hql : q < ds.length
    · obtain ⟨a, ha⟩ : ∃ a, ds[q]? = some a := ⟨_, List.getElem?_eq_getElem hql⟩
      have haO := HDS.out a (List.mem_of_getElem? ha)
      obtain ⟨g, off, fv, bv, rfl, -, hg, k0, k1, k2, k3, k4, k5, k6, hqr, hir⟩ := HV.out.at_ ha
      have hcell : ∀ o, wr.cell? ⟨g, o, none⟩ = w0.cell? ⟨g, o, none⟩ := fun o => World.cell?_of_block (hd.out.2.block g hg (fun h => h))
      have c0 := (hcell _).trans k0
      have c1 := (hcell _).trans k1
      have c2 := (hcell _).trans k2
      have c3 := (hcell _).trans k3
      have c4 := (hcell _).trans k4
      have c5 := (hcell _).trans k5
      have c6 := (hcell _).trans k6
      have hqI : (q : Int) < (ds.length : Int) := by omega
      have hq0 : (0 : Int) ≤ (q : Int) := by omega
      have HDo := Lib.hid (deed_any hd.out hI.out hS.out (by omega) a haO (.agg #[.int .i64 a.kind, .string (str a.A), .string (str a.B), .int .i64 a.n, fv, .int .i64 a.k, bv]) ⟨fv, bv, rfl, hqr.kept hd.out.2 (fun _ _ h => h), hir.kept hd.out.2 (fun _ _ h => h)⟩ (K := K) (fun k hk hh => hh.elim id (fun h => by have := HK.out k hk; omega)))
      have HN2 := Lib.hid (doS_ne hN.out hI.out a)
      obtain ⟨T, hTe⟩ : ∃ T, doS S a = T := ⟨_, rfl⟩
      have HTI := Lib.hid (show T.Inv from by rw [← hTe]; exact doS_inv hI.out a)
      have HTS := Lib.hid (show T.Small (q + 1) from by rw [← hTe]; exact doS_small hS.out haO)
      rw [hTe] at HDo HN2
      clear ha hcell k0 k1 k2 k3 k4 k5 k6 hqr hir hTe
      go_wp2_with fail
      ((refine Calls.mono HDo.out ?_); rintro e w7 ⟨rfl, hd7⟩)
      have HD7 := Lib.hid hd7
      clear hd7
      go_wp2
      go_roundw
      case rel => exact ⟨q + 1, T, by omega, by go_num, HD7.out, HTI.out, HTS.out, HN2.out⟩
      case measure => simp [intOf]; omega
    · obtain rfl : q = ds.length := by omega
      go_wp2
      go_end0
      exact ⟨rfl, c, S, hd.out, hI.out, hS.out, hN.out⟩
end Go.Proofs.Ytbjlffhnkcbnmaa
