/- aof: sync, Sync, Close. aof: the closures of Rewrite and read. -/
import Derived.Test.YtfbjmhipjfjaeaaGreatDoorM19
import Derived.BigQuiet
import Derived.StillTailTactics
namespace Go.Proofs.YtfbjmhipjfjaeaaGreatDoor
open Go.ChangeShapes Go.WideShapes Go.ChangeAt Go.RowKit Go.Maps Pl
set_option linter.unusedVariables false
set_option linter.unusedSimpArgs false
theorem alloc_here (w : World) (o : Obj) : (w.alloc o).heap[w.heap.size]? = some o := by
  show (w.heap.push o)[w.heap.size]? = some o
  exact Array.getElem?_push_size
/-- number of a fault gives its number. -/
def NumF : Prop := ∀ (w : World) (f : Nat) (a : Addr) (c : Int), Sent w a → 3 ≤ w.heap.size → w.cell? ⟨f, 0, none⟩ = some (.int .i64 c) →
  Calls Tryz.prog 45 #[.iface 122 (.pointer (some ⟨f, 0, none⟩))] w fun e w' => e = .returned (.int .i64 c) ∧ Below w.heap.size w w'
/-- number, of what an error tells. -/
theorem number_is {P : Nat → Prop} {w0 w : World} {a : Addr} {c : Int} {v : Value} (hF : c ≠ 0 → NumF) (h : ErrIs P w0 w c v) (hs : Sent w a) (h3 : 3 ≤ w.heap.size) :
    Calls Tryz.prog 45 #[v] w fun e w' => e = .returned (.int .i64 c) ∧ Below w.heap.size w w' := by
  rcases h with ⟨rfl, rfl⟩ | ⟨hc, f, rfl, hf, -⟩
  · exact number_nil w
  · exact hF hc w f a c hs h3 hf
/-- Steps on the disk of a log. -/
theorem LW.each {P : Nat → Prop} {w w3 : World} {l b : Nat} {a : Addr} {j g cp n : Nat} {S : Dk} {L : Lg} {xs : List Stp} {vs : List Value} {ty : TypeId} (h : LW P w l b a S L) (hb : Below w.heap.size w w3) (hI : S.Inv) (hS : S.Small j) (hj : j ≤ 4194200) (hn : n ≤ 90)
    (hr : w3.heap[g]? = some (.cells vs.toArray ty (0, 0))) (hg : w.heap.size ≤ g) (hx : xs.length = n) (hv : vs.length = n) (hs : ∀ (i : Nat) (x : Stp) (v : Value), xs[i]? = some x → vs[i]? = some v → StepFn (fun k => P k ∧ k < w.heap.size) w3 b x v) :
    Calls Tryz.prog 36 #[.slice (some ⟨g, 0, none⟩) n cp] w3 (fun e w' => ∃ v, e = .returned v ∧ LgEnd P w l b a (goL xs S).1 L w' ∧ ErrIs (fun _ => False) w w' (goL xs S).2 v) := by
  refine (each_list (H := fun k => P k ∧ k < w.heap.size) (h.start.below hb) hI hS hj hn hr (fun hk => by omega) hx hv hs).mono ?_
  rintro e w4 ⟨v, P4, rfl, o4, p4, w4r, ev⟩
  refine ⟨v, rfl, LgEnd.of_each h hb o4 p4 w4r, ?_⟩
  rcases ev with ⟨hc, hv⟩ | ⟨hc, f, hv, hf, h1, h2, h3⟩
  · exact .inl ⟨hc, hv⟩
  · exact .inr ⟨hc, f, hv, hf, Nat.le_trans hb.size h1, h2, fun h => h⟩
/-- What fails makes of a log. -/
def Pl.Lg.failed (L : Lg) (c : Int) : Lg := if c = 0 then L else { L with broken := true }
theorem fails_any {P : Nat → Prop} {w w4 : World} {l b : Nat} {a : Addr} {S : Dk} {L : Lg} {c : Int} {v : Value} (h : LgEnd P w l b a S L w4) (ev : ErrIs (fun _ => False) w w4 c v) (hl : l < w.heap.size) (hb : L.broken = false) :
    Calls Tryz.prog 48 #[.pointer (some ⟨l, 0, none⟩), v] w4 (fun e w5 => e = .returned v ∧ LgEnd P w l b a S (L.failed c) w5 ∧ ErrIs (fun _ => False) w w5 c v) := by
  obtain ⟨P4, h4, -, -⟩ := id h
  rcases ev with ⟨rfl, rfl⟩ | ⟨hc, f, rfl, hf, h1, h2, h3⟩
  · refine (fails_nil h4.log hb).mono ?_
    rintro e w5 ⟨rfl, rfl⟩
    refine ⟨rfl, h.put 6 _ ?_, .inl ⟨rfl, rfl⟩⟩
    unfold Lg.failed
    rw [if_pos rfl]
    rw [← hb]; rfl
  · refine (fails_err h4.log hb _).mono ?_
    rintro e w5 ⟨rfl, rfl⟩
    refine ⟨rfl, h.put 6 _ ?_, .inr ⟨hc, f, rfl, ?_, h1, ?_, h3⟩⟩
    · unfold Lg.failed
      rw [if_neg hc]
      rfl
    · have hw : Wr (fun k => k = l) w4 (w4.setCell ⟨l, 6, none⟩ (.bool true)) := Wr.setCell (F := fun k => k = l) (Wr.refl _ w4) (p := ⟨l, 6, none⟩) rfl _
      exact (World.cell?_of_block (hw.block f h2 (fun e => by omega))).trans hf
    · have hw : Wr (fun k => k = l) w4 (w4.setCell ⟨l, 6, none⟩ (.bool true)) := Wr.setCell (F := fun k => k = l) (Wr.refl _ w4) (p := ⟨l, 6, none⟩) rfl _
      exact Nat.lt_of_lt_of_le h2 hw.size
/-- The log after a sync. -/
def Pl.Lg.synced (S : Dk) (L : Lg) : Dk × Lg × Int :=
  if L.lasting = L.last then (S, L, 0) else (S.syncS logN, if S.appendE logN = 0 then { L with lasting := L.last } else { L with broken := true }, S.appendE logN)
section
variable {P : Nat → Prop} {w : World} {l b : Nat} {a : Addr} {j : Nat} {S : Dk} {L : Lg}
set_option maxRecDepth 100000 in
theorem logSync_any (h : LW P w l b a S L) (hI : S.Inv) (hS : S.Small j) (hj : j ≤ 4194200) (hbr : L.broken = false) :
    Calls Tryz.prog 49 #[.pointer (some ⟨l, 0, none⟩)] w (LgErr P w l b a (L.synced S).1 (L.synced S).2.1 (L.synced S).2.2) := by
  have h0 : w.cell? ⟨l, 0, none⟩ = some (.pointer (some ⟨b, 0, none⟩)) := h.log.cell 0
  have h3 : w.cell? ⟨l, 3, none⟩ = some (.int .u64 L.last) := h.log.cell 3
  have h4 : w.cell? ⟨l, 4, none⟩ = some (.int .u64 L.lasting) := h.log.cell 4
  by_cases e : L.lasting = L.last
  · have HW := Lib.hid h
    unfold Lg.synced
    rw [if_pos e]
    rw [e] at h4
    clear h hI hS e
    go_enter Tryz.func49, Tryz.ntmps49
    go_wp2_with fail
    go_quiet (fail)
    go_wp2
    go_ret
    exact ⟨_, rfl, (LgEnd.refl HW.out).below (below_drewN (Below.refl _ _) _), .inl ⟨rfl, rfl⟩⟩
  · have e' : ((L.lasting : Int) == (L.last : Int)) = false := by rw [beq_eq_false_iff_ne]; omega
    have hcell : (L.cells b).setIfInBounds 6 (.bool false) = L.cells b := by rw [← hbr]; rfl
    have HW := Lib.hid h
    have HE := Lib.hid e
    obtain ⟨rr, hrr⟩ : ∃ rr, L.synced S = rr := ⟨_, rfl⟩
    rw [hrr]
    unfold Lg.synced at hrr
    rw [if_neg e] at hrr
    have HRR := Lib.hid hrr
    clear hrr
    have HB := Lib.hid hbr
    have HC := Lib.hid hcell
    have HI := Lib.hid hI
    have HS := Lib.hid hS
    clear h hI hS e hbr hcell
    go_enter Tryz.func49, Tryz.ntmps49
    go_wp2_with fail
    go_quiet (fail)
    rename_i nq
    have HWq := Lib.hid (HW.out.drewN nq)
    have hsz : w.heap.size = (w.drewN nq).heap.size := rfl
    have h0 : (w.drewN nq).cell? ⟨l, 0, none⟩ = some (.pointer (some ⟨b, 0, none⟩)) := HWq.out.log.cell 0
    have HL := Lib.hid (below_drewN (Below.refl w.heap.size w) nq)
    clear h3 h4 e' hsz
    generalize w.drewN nq = wq at *
    go_wp2_with fail
    refine (syncs_any _ _).mono ?_
    rintro e w2 ⟨p, rfl, hp, hpl, b2⟩
    have hp := Lib.hid hp
    have B2 := Lib.hid b2
    clear b2
    go_wp2_with fail
    have b3 := B2.out.alloc B2.out.size (.cells #[.func (.func 75) #[] #[.pointer (some ⟨p, 0, none⟩)]] 32)
    refine (HWq.out.each (n := 1) (xs := [.sync logN]) (vs := [.func (.func 75) #[] #[.pointer (some ⟨p, 0, none⟩)]]) b3 HI.out HS.out hj (by omega) (alloc_here _ _) B2.out.size rfl rfl (fun i x v hx hv => ?_)).mono ?_
    · obtain rfl : i = 0 := by
        have := (List.getElem?_eq_some_iff.1 hx).1
        simp at this; exact this
      cases hx; cases hv
      exact step_sync ((World.cell?_alloc_past _ _ _ hpl.2).trans hp.out) (by simp; omega) (fun hk => by omega)
    rintro e w4 ⟨v, rfl, le4, ev4⟩
    have LE4 := Lib.hid le4
    have EV4 := Lib.hid ev4
    clear le4 ev4
    go_wp2_with fail
    refine (fails_any LE4.out EV4.out HWq.out.log.lt HB.out).mono ?_
    rintro e w5 ⟨rfl, le5, ev5⟩
    have LE5 := Lib.hid le5
    clear le5
    rcases ev5 with ⟨hc, rfl⟩ | ⟨hc, f, rfl, hf, hfl, hfu, -⟩
    · obtain ⟨P5, lw5, hp5, hw5⟩ := id LE5.out
      have h3 : w5.cell? ⟨l, 3, none⟩ = some (.int .u64 L.last) := by
        have := lw5.log.cell 3
        unfold Lg.failed at this
        split at this <;> exact this
      have h4 : w5.cell? ⟨l, 4, none⟩ = some (.int .u64 L.lasting) := by
        have := lw5.log.cell 4
        unfold Lg.failed at this
        split at this <;> exact this
      have h4f := lw5.log.free 4
      have hc := Lib.hid hc
      clear lw5 hp5 hw5
      go_wp2
      go_ret
      have hc := hc.out
      rw [goL1] at hc
      have hc : S.appendE logN = 0 := Int.ofNat.inj hc
      have e5 := LE5.out
      rw [goL1] at e5
      have hrr := HRR.out
      rw [if_pos hc, hc] at hrr
      subst hrr
      refine ⟨_, rfl, (e5.put 4 _ ?_).early HL.out, .inl ⟨rfl, rfl⟩⟩
      simp only [Stp.e, hc]
      rfl
    · have hf := Lib.hid hf
      have hc := Lib.hid hc
      go_wp2
      go_ret
      have hc := hc.out
      have hf := hf.out
      have e5 := LE5.out
      rw [goL1] at e5 hc hf
      have hc' : S.appendE logN ≠ 0 := fun e => hc (by show (S.appendE logN : Int) = 0; rw [e]; rfl)
      have hrr := HRR.out
      rw [if_neg hc'] at hrr
      subst hrr
      unfold Lg.failed at e5
      rw [if_neg hc] at e5
      exact ⟨_, rfl, e5.early HL.out, .inr ⟨hc, f, rfl, hf, Nat.le_trans HL.out.size hfl, hfu, fun h => h⟩⟩
end
end Go.Proofs.YtfbjmhipjfjaeaaGreatDoor

namespace Go.Proofs.YtfbjmhipjfjaeaaGreatDoor
open Go.ChangeShapes Go.WideShapes Go.ChangeAt Go.RowKit Go.Maps Pl
set_option linter.unusedVariables false
set_option linter.unusedSimpArgs false
section
variable {H : Nat → Prop} {w1 w : World} {b j p q : Nat} {S : Dk}
set_option maxRecDepth 100000 in
theorem rw1_any (h : Solo H w1 w b S) (hI : S.Inv) (hS : S.Small j) (hj : j ≤ 4194300) (hp : Bx w p (.pointer (some ⟨b, 0, none⟩))) :
    Calls Tryz.prog 50 #[.pointer (some ⟨p, 0, none⟩)] w (SEnd H w1 b (S.createS tempN) (.int .i64 (S.createE tempN))) := by
  have HC := Lib.hid (h.create hI hS hj tempN tempN_len)
  have hp : w.cell? ⟨p, 0, none⟩ = _ := hp
  clear h hI hS
  go_enter Tryz.func50, Tryz.ntmps50
  go_wp2_with fail
  refine HC.out.mono ?_
  rintro e w2 ⟨rfl, h2⟩
  have h2 := Lib.hid h2
  go_wp2
  go_ret
  exact ⟨rfl, h2.out⟩
theorem ent_rw1 : Ent 50 := ent_of Tryz.func50 (by kernel_rfl) (by kernel_rfl)
theorem step_rw1 (hp : Bx w p (.pointer (some ⟨b, 0, none⟩))) (hl : p < w.heap.size) (hn : ¬ H p) : StepFn H w b (.create tempN) (.func (.func 50) #[] #[.pointer (some ⟨p, 0, none⟩)]) :=
  ⟨_, _, _, rfl, ent_rw1, tempN_len, fun W S j hI hS hj hW => rw1_any hW hI hS hj (hp.kept hl hn hW.2)⟩
set_option maxRecDepth 100000 in
theorem rw2_any (h : Solo H w1 w b S) (hI : S.Inv) (hS : S.Small j) (hj : j ≤ 4194300) (hp : Bx w p (.pointer (some ⟨b, 0, none⟩))) :
    Calls Tryz.prog 51 #[.pointer (some ⟨p, 0, none⟩)] w (SEnd H w1 b (S.syncS tempN) (.int .i64 (S.appendE tempN))) := by
  have HC := Lib.hid (h.sync hI hS hj tempN tempN_len)
  have hp : w.cell? ⟨p, 0, none⟩ = _ := hp
  clear h hI hS
  go_enter Tryz.func51, Tryz.ntmps51
  go_wp2_with fail
  refine HC.out.mono ?_
  rintro e w2 ⟨rfl, h2⟩
  have h2 := Lib.hid h2
  go_wp2
  go_ret
  exact ⟨rfl, h2.out⟩
theorem ent_rw2 : Ent 51 := ent_of Tryz.func51 (by kernel_rfl) (by kernel_rfl)
theorem step_rw2 (hp : Bx w p (.pointer (some ⟨b, 0, none⟩))) (hl : p < w.heap.size) (hn : ¬ H p) : StepFn H w b (.sync tempN) (.func (.func 51) #[] #[.pointer (some ⟨p, 0, none⟩)]) :=
  ⟨_, _, _, rfl, ent_rw2, tempN_len, fun W S j hI hS hj hW => rw2_any hW hI hS hj (hp.kept hl hn hW.2)⟩
set_option maxRecDepth 100000 in
theorem rw3_any (h : Solo H w1 w b S) (hI : S.Inv) (hS : S.Small j) (hj : j ≤ 4194300) (hp : Bx w p (.pointer (some ⟨b, 0, none⟩))) :
    Calls Tryz.prog 53 #[.pointer (some ⟨p, 0, none⟩)] w (SEnd H w1 b (S.renameS tempN logN) (.int .i64 (S.renameE tempN logN))) := by
  have HC := Lib.hid (h.rename hI hS hj tempN logN tempN_len logN_len)
  have hp : w.cell? ⟨p, 0, none⟩ = _ := hp
  clear h hI hS
  go_enter Tryz.func53, Tryz.ntmps53
  go_wp2_with fail
  refine HC.out.mono ?_
  rintro e w2 ⟨rfl, h2⟩
  have h2 := Lib.hid h2
  go_wp2
  go_ret
  exact ⟨rfl, h2.out⟩
theorem ent_rw3 : Ent 53 := ent_of Tryz.func53 (by kernel_rfl) (by kernel_rfl)
theorem step_rw3 (hp : Bx w p (.pointer (some ⟨b, 0, none⟩))) (hl : p < w.heap.size) (hn : ¬ H p) : StepFn H w b (.rename tempN logN) (.func (.func 53) #[] #[.pointer (some ⟨p, 0, none⟩)]) :=
  ⟨_, _, _, rfl, ent_rw3, ⟨tempN_len, logN_len⟩, fun W S j hI hS hj hW => rw3_any hW hI hS hj (hp.kept hl hn hW.2)⟩
set_option maxRecDepth 100000 in
theorem rd1_any (h : Solo H w1 w b S) (hI : S.Inv) (hS : S.Small j) (hj : j ≤ 4194300) (hp : Bx w p (.pointer (some ⟨b, 0, none⟩))) :
    Calls Tryz.prog 67 #[.pointer (some ⟨p, 0, none⟩)] w (SEnd H w1 b (S.truncS logN 0) (.int .i64 (S.appendE logN))) := by
  have HC := Lib.hid (h.trunc hI hS hj logN 0 logN_len)
  have hp : w.cell? ⟨p, 0, none⟩ = _ := hp
  clear h hI hS
  go_enter Tryz.func67, Tryz.ntmps67
  go_wp2_with fail
  refine HC.out.mono ?_
  rintro e w2 ⟨rfl, h2⟩
  have h2 := Lib.hid h2
  go_wp2
  go_ret
  exact ⟨rfl, h2.out⟩
theorem ent_rd1 : Ent 67 := ent_of Tryz.func67 (by kernel_rfl) (by kernel_rfl)
theorem step_rd1 (hp : Bx w p (.pointer (some ⟨b, 0, none⟩))) (hl : p < w.heap.size) (hn : ¬ H p) : StepFn H w b (.trunc logN 0) (.func (.func 67) #[] #[.pointer (some ⟨p, 0, none⟩)]) :=
  ⟨_, _, _, rfl, ent_rd1, logN_len, fun W S j hI hS hj hW => rd1_any hW hI hS hj (hp.kept hl hn hW.2)⟩
set_option maxRecDepth 100000 in
theorem rd2_any {l : Nat} {L : Lg} (h : Solo H w1 w b S) (hI : S.Inv) (hS : S.Small j) (hj : j ≤ 4194300) (hp : Bx w p (.pointer (some ⟨b, 0, none⟩))) (hq : Bx w q (.pointer (some ⟨l, 0, none⟩))) (hL : LogAt w l b L) :
    Calls Tryz.prog 72 #[.pointer (some ⟨p, 0, none⟩), .pointer (some ⟨q, 0, none⟩)] w (SEnd H w1 b (S.truncS logN L.size) (.int .i64 (S.appendE logN))) := by
  have HC := Lib.hid (h.drew.trunc hI hS hj logN L.size logN_len)
  have hp : w.cell? ⟨p, 0, none⟩ = _ := hp
  have hq : w.cell? ⟨q, 0, none⟩ = _ := hq
  have h5 : w.cell? ⟨l, 5, none⟩ = some (.int .i64 L.size) := hL.cell 5
  clear h hI hS hL
  go_enter Tryz.func72, Tryz.ntmps72
  go_wp2_with fail
  go_wp2_with fail
  go_still_tail 5, (by kernel_rfl)
  change wpList _ _ _ _ _ w.drew
  clear hp hq h5
  generalize w.drew = wd at *
  go_wp2_with fail
  refine HC.out.mono ?_
  rintro e w2 ⟨rfl, h2⟩
  have h2 := Lib.hid h2
  go_wp2
  go_ret
  exact ⟨rfl, h2.out⟩
theorem ent_rd2 : Ent 72 := ent_of Tryz.func72 (by kernel_rfl) (by kernel_rfl)
theorem step_rd2 {l : Nat} {L : Lg} (hp : Bx w p (.pointer (some ⟨b, 0, none⟩))) (hq : Bx w q (.pointer (some ⟨l, 0, none⟩))) (hl : p < w.heap.size) (hn : ¬ H p) (hl2 : q < w.heap.size) (hn2 : ¬ H q) (hL : LogAt w l b L) (hn3 : ¬ H l) : StepFn H w b (.trunc logN L.size) (.func (.func 72) #[] #[.pointer (some ⟨p, 0, none⟩), .pointer (some ⟨q, 0, none⟩)]) :=
  ⟨_, _, _, rfl, ent_rd2, logN_len, fun W S j hI hS hj hW => rd2_any hW hI hS hj (hp.kept hl hn hW.2) (hq.kept hl2 hn2 hW.2) (hL.kept hW.2 hn3)⟩
end
end Go.Proofs.YtfbjmhipjfjaeaaGreatDoor
