/- aof: Append. aof: Sync, Close. -/
import Derived.Test.YtfbjmhipjfjaeaaGreatDoorM20
import Derived.Test.YtfbjmhipjfjaeaaGreatDoorM16
namespace Go.Proofs.YtfbjmhipjfjaeaaGreatDoor
open Go.ChangeShapes Go.WideShapes Go.ChangeAt Go.RowKit Go.Maps Pl
set_option linter.unusedVariables false
set_option linter.unusedSimpArgs false
theorem enc_good (n : Nat) (s : Tx) (hn0 : n ≠ 0) (hn : n ≤ 18446744073709551615) (hs : s.length ≤ 33554400) (w : World) :
    Calls Tryz.prog 47 #[.agg #[.int .u64 n, .string (str s)]] w fun e w' => e = .returned (.tuple #[.string (str (encL n s)), .int .i64 0]) ∧ Below w.heap.size w w' := by
  have h := enc_any n (str s) w hn (by rw [str_size]; unfold maxLen; omega)
  unfold encS encE at h
  rw [if_neg (by rw [str_size]; omega), if_neg (by rw [str_size]; omega), str_toList] at h
  exact h
/-- Does the log sync now? -/
def Pl.Lg.due (L : Lg) : Bool := decide (L.pol = 1) || decide (L.pol = 2 ∧ L.every ≤ (L.last : Int) - L.lasting)
def Pl.Lg.more (L : Lg) (s : Tx) : Lg := { L with last := L.last + 1, size := L.size + s.length }
/-- Append. -/
def Pl.Lg.append (S : Dk) (L : Lg) (body : Tx) : Dk × Lg × Nat × Int :=
  if L.dead = true then (S, L, 0, 262)
  else
    let s := encL (L.last + 1) body
    if S.appendE logN ≠ 0 then (S.appendS logN s, { L with broken := true }, 0, S.appendE logN)
    else if (L.more s).due = true then
      let r := (L.more s).synced (S.appendS logN s)
      (r.1, r.2.1, if r.2.2 = 0 then L.last + 1 else 0, r.2.2)
    else (S.appendS logN s, L.more s, L.last + 1, 0)
/-- A log whose numbers are as they should be. -/
structure Pl.Lg.Fit (L : Lg) : Prop where
  last : L.last ≤ 9223372036854775807
  lasting : L.lasting ≤ L.last
  size0 : 0 ≤ L.size
  size : L.size ≤ 4611686018427387904
  every0 : 0 ≤ L.every
  every : L.every ≤ 9223372036854775807
/-- Nothing is planned, the log's file is there. -/
def Pl.Dk.Calm (S : Dk) : Prop := S.plan = [] ∧ S.askE logN = 0
namespace Pl.Dk.Calm
variable {S : Dk}
theorem fault (h : S.Calm) : S.faultE = 0 := by unfold Dk.faultE Dk.hit; rw [h.1]; rfl
theorem hit (h : S.Calm) : S.hit = none := by unfold Dk.hit; rw [h.1]; rfl
theorem appendE (h : S.Calm) : S.appendE logN = 0 := by unfold Dk.appendE; rw [if_neg (by rw [h.2]; simp), h.fault]
theorem faultS (h : S.Calm) : S.faultS.Calm := by
  refine ⟨h.1, ?_⟩
  have := h.2
  have h2 := h.hit
  unfold Dk.askE Dk.faultS at *
  simp only [h2, Bool.or_false]
  exact this
theorem setF (h : S.Calm) (f : Nat) (g : Fl → Fl) : (S.setF f g).Calm := h
theorem append (h : S.Calm) (s : Tx) : (S.appendS logN s).Calm := by
  unfold Dk.appendS
  rw [if_neg (by rw [h.2]; simp)]
  exact h.faultS.setF _ _
theorem sync (h : S.Calm) : (S.syncS logN).Calm := by
  unfold Dk.syncS
  rw [if_neg (by rw [h.2]; simp), if_neg (by rw [h.fault]; simp)]
  exact h.faultS.setF _ _
end Pl.Dk.Calm
theorem LgEnd.thenL {P P7 : Nat → Prop} {w w7 w9 : World} {l b : Nat} {a : Addr} {S : Dk} {L : Lg} (h : LgEnd P7 w7 l b a S L w9) (k7 : ∀ k, P7 k → P k ∨ w.heap.size ≤ k) (r7 : Wr (fun k => P k ∨ k = l) w w7) : LgEnd P w l b a S L w9 := by
  obtain ⟨P9, l9, k9, r9⟩ := h
  refine ⟨P9, l9, fun k hk => ?_, r7.trans r9 fun k hk => ?_⟩
  · rcases k9 k hk with h | h
    · exact k7 k h
    · exact .inr (Nat.le_trans r7.size h)
  · rcases hk with h | h
    · exact (k7 k h).imp .inl id
    · exact .inl (.inr h)
section
variable {P : Nat → Prop} {w : World} {l b : Nat} {a : Addr} {j : Nat} {S : Dk} {L : Lg}
def AEnd (P : Nat → Prop) (w : World) (l b : Nat) (a : Addr) (r : Dk × Lg × Nat × Int) (e : Ending) (w' : World) : Prop :=
  e = .returned (.tuple #[.int .u64 r.2.2.1, .int .i64 r.2.2.2]) ∧ LgEnd P w l b a r.1 r.2.1 w'
set_option maxRecDepth 100000 in
theorem logAppend_dead (h : LW P w l b a S L) (hd : L.dead = true) (body : Tx) :
    Calls Tryz.prog 8 #[.pointer (some ⟨l, 0, none⟩), .string (str body)] w (AEnd P w l b a (S, L, 0, 262)) := by
  have HR := Lib.hid (ready_any h.log h.sent)
  rw [if_pos hd] at HR
  have HN := Lib.hid (number_broken h.sent h.three)
  have HW := Lib.hid h
  clear h hd
  go_enter Tryz.func8, Tryz.ntmps8
  go_wp2_with fail
  refine HR.out.mono ?_
  rintro e w2 ⟨rfl, rfl⟩
  go_wp2_with fail
  refine HN.out.mono ?_
  rintro e w3 ⟨rfl, b3⟩
  go_wp2
  go_ret2
  exact ⟨rfl, (LgEnd.refl HW.out).below b3⟩
set_option maxRecDepth 100000 in
theorem logAppend_any (h : LW P w l b a S L) (hI : S.Inv) (hS : S.Small j) (hj : j ≤ 4194100) (hf : L.Fit) (body : Tx) (hb : body.length ≤ 33554400) (hF : NumF ∨ S.Calm) :
    Calls Tryz.prog 8 #[.pointer (some ⟨l, 0, none⟩), .string (str body)] w (AEnd P w l b a (L.append S body)) := by
  cases hd : L.dead with
  | true =>
    unfold Lg.append
    rw [if_pos hd]
    exact logAppend_dead h hd body
  | false =>
    have hbr : L.broken = false := by unfold Lg.dead at hd; cases h1 : L.broken with
      | true => rw [h1] at hd; cases hd
      | false => rfl
    have h0 : w.cell? ⟨l, 0, none⟩ = some (.pointer (some ⟨b, 0, none⟩)) := h.log.cell 0
    have h3 : w.cell? ⟨l, 3, none⟩ = some (.int .u64 L.last) := h.log.cell 3
    have HR := Lib.hid (ready_any h.log h.sent)
    rw [if_neg (by rw [hd]; decide)] at HR
    have hl1 := hf.last
    have hwr : IntKind.u64.wrap ((L.last : Int) + 1) = ((L.last + 1 : Nat) : Int) := by unfold IntKind.wrap; simp [IntKind.signed, IntKind.bits]; omega
    have HE := Lib.hid fun W => enc_good (L.last + 1) body (by omega) (by omega) hb W
    obtain ⟨s, hs⟩ : ∃ s, encL (L.last + 1) body = s := ⟨_, rfl⟩
    have hsl : s.length = 25 + body.length := by rw [← hs, encL_length]
    rw [hs] at HE
    obtain ⟨rr, hrr⟩ : ∃ rr, L.append S body = rr := ⟨_, rfl⟩
    rw [hrr]
    unfold Lg.append at hrr
    rw [if_neg (by rw [hd]; decide), hs] at hrr
    simp only at hrr
    have HRR := Lib.hid hrr
    clear hrr
    have HW := Lib.hid h
    have HF := Lib.hid hf
    have HI := Lib.hid hI
    have HS := Lib.hid hS
    clear h hf hI hS hd hs
    go_enter Tryz.func8, Tryz.ntmps8
    go_wp2_with fail
    refine HR.out.mono ?_
    rintro e w2 ⟨rfl, rfl⟩
    go_wp2_with fail
    refine (HE.out _).mono ?_
    rintro e w3 ⟨rfl, b3⟩
    have B3 := Lib.hid b3
    have h0' : w3.cell? ⟨l, 0, none⟩ = some (.pointer (some ⟨b, 0, none⟩)) := (HW.out.below b3).log.cell 0
    clear b3 h0
    go_wp2_with fail
    refine (appendTo_any b _ _ _).mono ?_
    rintro e w4 ⟨p, q, r, rfl, hp, hq, hr, hpl, hql, hrl, b4⟩
    have B4 := Lib.hid (B3.out.trans (b4.mono B3.out.size))
    have HP := Lib.hid (And.intro hp (And.intro hq hr))
    have hw3 := B3.out.size
    clear hp hq hr b4
    go_wp2_with fail
    have b5 := B4.out.alloc B4.out.size (.cells #[.func (.func 73) #[] #[.pointer (some ⟨p, 0, none⟩), .pointer (some ⟨q, 0, none⟩), .pointer (some ⟨r, 0, none⟩)]] 32)
    refine (HW.out.each (n := 1) (xs := [.append logN s]) (vs := [.func (.func 73) #[] #[.pointer (some ⟨p, 0, none⟩), .pointer (some ⟨q, 0, none⟩), .pointer (some ⟨r, 0, none⟩)]]) b5 HI.out HS.out (by omega) (by omega) (alloc_here _ _) B4.out.size rfl rfl (fun i x v hx hv => ?_)).mono ?_
    · obtain rfl : i = 0 := by
        have := (List.getElem?_eq_some_iff.1 hx).1
        simp at this; exact this
      cases hx; cases hv
      exact step_append (by decide) (by omega) ((World.cell?_alloc_past _ _ _ hpl.2).trans HP.out.1) ((World.cell?_alloc_past _ _ _ hql.2).trans HP.out.2.1) ((World.cell?_alloc_past _ _ _ hrl.2).trans HP.out.2.2)
        ⟨by simp; omega, fun hk => by omega⟩ ⟨by simp; omega, fun hk => by omega⟩ ⟨by simp; omega, fun hk => by omega⟩
    rintro e w5 ⟨v, rfl, le5, ev5⟩
    rw [goL1] at le5 ev5
    have LE5 := Lib.hid le5
    have EV5 := Lib.hid ev5
    clear le5 ev5 b5 hpl hql hrl
    go_wp2_with fail
    refine (fails_any LE5.out EV5.out HW.out.log.lt hbr).mono ?_
    rintro e w6 ⟨rfl, le6, ev6⟩
    have LE6 := Lib.hid le6
    have EV6 := Lib.hid ev6
    clear le6
    by_cases hc : S.appendE logN = 0
    · have hc' : Stp.e (.append logN s) S = 0 := by simp only [Stp.e]; rw [hc]; rfl
      have hrr := HRR.out
      rw [if_neg (by simpa using hc)] at hrr
      clear HRR
      rcases ev6 with ⟨-, rfl⟩ | ⟨hx, -⟩
      case inr => exact absurd hc' hx
      have le6 := LE6.out
      unfold Lg.failed at le6
      rw [if_pos hc'] at le6
      obtain ⟨P6, lw6, -, -⟩ := id le6
      have h3 : w6.cell? ⟨l, 3, none⟩ = some (.int .u64 L.last) := lw6.log.cell 3
      have h5 : w6.cell? ⟨l, 5, none⟩ = some (.int .i64 L.size) := lw6.log.cell 5
      have f3 := lw6.log.free 3
      have f5 := lw6.log.free 5
      have LE6' := Lib.hid le6
      clear lw6 le6 LE6 EV6
      go_upto_region 14 with fail
      have hz0 := HF.out.size0
      have hz1 := HF.out.size
      have hws : wrap64 (L.size + ((str s).size : Int)) = L.size + (s.length : Int) := by rw [str_size]; unfold wrap64; omega
      have le7 := (LE6'.out.put (L' := { L with last := L.last + 1 }) 3 (.int .u64 ((L.last : Int) + 1)) rfl).put (L' := L.more s) 5 (.int .i64 (wrap64 (L.size + ((str s).size : Int)))) (by rw [hws]; rfl)
      generalize ((w6.setCell ⟨l, 3, none⟩ (.int .u64 ((L.last : Int) + 1))).setCell ⟨l, 5, none⟩ (.int .i64 (wrap64 (L.size + ((str s).size : Int))))) = w7 at le7 ⊢
      obtain ⟨P7, lw7, k7, r7⟩ := id le7
      have lw7 : LW P7 w7 l b a (S.appendS logN s) (L.more s) := lw7
      have K7 := Lib.hid (And.intro k7 r7)
      have h17 : w7.cell? ⟨l, 1, none⟩ = some (.int .i64 L.pol) := lw7.log.cell 1
      have h27 : w7.cell? ⟨l, 2, none⟩ = some (.int .i64 L.every) := lw7.log.cell 2
      have h37 : w7.cell? ⟨l, 3, none⟩ = some (.int .u64 ((L.last + 1 : Nat) : Int)) := lw7.log.cell 3
      have h47 : w7.cell? ⟨l, 4, none⟩ = some (.int .u64 L.lasting) := lw7.log.cell 4
      have hI7 : (S.appendS logN s).Inv := HI.out.append _ _
      have hS7 : (S.appendS logN s).Small (j + 1) := HS.out.append _ (by omega)
      have HY := Lib.hid fun n => logSync_any (lw7.drewN n) hI7 hS7 (by omega) hbr
      obtain ⟨r1, hr1⟩ : ∃ r1, (L.more s).synced (S.appendS logN s) = r1 := ⟨_, rfl⟩
      rw [hr1] at hrr HY
      have HF8 : Hid (r1.2.2 ≠ 0 → NumF) := Lib.hid fun hx => hF.resolve_right fun hcm => by
        rw [← hr1] at hx
        unfold Lg.synced at hx
        split at hx
        · exact hx rfl
        · exact hx (by simp only; rw [(hcm.append s).appendE]; rfl)
      have LE7 := Lib.hid le7
      have HL1 := Lib.hid (show (L.more s).last = L.last + 1 from rfl)
      have hl1' : r1.2.1.last = L.last + 1 := by
        rw [← hr1]; unfold Lg.synced
        split
        · rfl
        · split <;> rfl
      clear lw7 k7 r7 hI7 hS7 hr1 le7 LE6' h3 h5 f3 f5 hws hz0 hz1
      by_cases h1 : L.pol = 1
      · rw [h1] at h17
        have hdue := Lib.hid (show (L.more s).due = true from by unfold Lg.due Lg.more; simp [h1])
        go_quiet (fail)
        rename_i nq
        rw [if_pos hdue.out] at hrr
        have hrr := Lib.hid hrr
        go_wp2_with fail
        refine (HY.out nq).mono ?_
        rintro e w9 ⟨v, rfl, le9, ev9⟩
        obtain ⟨P9, lw9, -, -⟩ := id le9
        have HN := Lib.hid (number_is HF8.out ev9 lw9.sent lw9.three)
        have h39 : w9.cell? ⟨l, 3, none⟩ = some (.int .u64 ((L.last + 1 : Nat) : Int)) := by rw [← hl1']; exact lw9.log.cell 3
        have LE9 := Lib.hid ((le9.early (below_drewN (Below.refl _ _) nq)).thenL K7.out.1 K7.out.2)
        clear le9 lw9
        rcases ev9 with ⟨hx, rfl⟩ | ⟨hx, f, rfl, -⟩
        · have hx := Lib.hid hx
          go_wp2
          go_ret2
          have hrr := hrr.out
          rw [if_pos hx.out, hx.out] at hrr
          subst hrr
          exact ⟨rfl, LE9.out⟩
        · have hx := Lib.hid hx
          go_wp2_with fail
          refine HN.out.mono ?_
          rintro e w10 ⟨rfl, b10⟩
          go_wp2
          go_ret2
          have hrr := hrr.out
          rw [if_neg hx.out] at hrr
          subst hrr
          exact ⟨rfl, LE9.out.below b10⟩
      · have h1' : (L.pol == 1) = false := by simpa using h1
        by_cases h2 : L.pol = 2
        · rw [h2] at h17
          have hev0 := HF.out.every0
          have hev1 := HF.out.every
          have hll := HF.out.lasting
          have hsub : IntKind.u64.wrap (((L.last + 1 : Nat) : Int) - (L.lasting : Int)) = ((L.last + 1 : Nat) : Int) - (L.lasting : Int) := by unfold IntKind.wrap; simp [IntKind.signed, IntKind.bits]; omega
          have hevw : IntKind.u64.wrap L.every = L.every := by unfold IntKind.wrap; simp [IntKind.signed, IntKind.bits]; omega
          by_cases h4 : L.every ≤ ((L.last + 1 : Nat) : Int) - (L.lasting : Int)
          · have hdue := Lib.hid (show (L.more s).due = true from by unfold Lg.due Lg.more; simp [h2]; exact h4)
            clear h1
            go_quiet (fail)
            rename_i nq
            rw [if_pos hdue.out] at hrr
            have hrr := Lib.hid hrr
            go_wp2_with fail
            refine (HY.out nq).mono ?_
            rintro e w9 ⟨v, rfl, le9, ev9⟩
            obtain ⟨P9, lw9, -, -⟩ := id le9
            have HN := Lib.hid (number_is HF8.out ev9 lw9.sent lw9.three)
            have h39 : w9.cell? ⟨l, 3, none⟩ = some (.int .u64 ((L.last + 1 : Nat) : Int)) := by rw [← hl1']; exact lw9.log.cell 3
            have LE9 := Lib.hid ((le9.early (below_drewN (Below.refl _ _) nq)).thenL K7.out.1 K7.out.2)
            clear le9 lw9
            rcases ev9 with ⟨hx, rfl⟩ | ⟨hx, f, rfl, -⟩
            · have hx := Lib.hid hx
              go_wp2
              go_ret2
              have hrr := hrr.out
              rw [if_pos hx.out, hx.out] at hrr
              subst hrr
              exact ⟨rfl, LE9.out⟩
            · have hx := Lib.hid hx
              go_wp2_with fail
              refine HN.out.mono ?_
              rintro e w10 ⟨rfl, b10⟩
              go_wp2
              go_ret2
              have hrr := hrr.out
              rw [if_neg hx.out] at hrr
              subst hrr
              exact ⟨rfl, LE9.out.below b10⟩
          · have hdue := Lib.hid (show ¬ (L.more s).due = true from by unfold Lg.due Lg.more; simp [h2]; omega)
            clear h1
            go_quiet (fail)
            rename_i nq
            rw [if_neg hdue.out] at hrr
            subst hrr
            go_wp2
            go_ret2
            exact ⟨rfl, LE7.out.below (below_drewN (Below.refl _ _) nq)⟩
        · have h2' : (L.pol == 2) = false := by simpa using h2
          have hdue := Lib.hid (show ¬ (L.more s).due = true from by unfold Lg.due Lg.more; simp [h1, h2])
          clear h1 h2
          go_quiet (fail)
          rename_i nq
          rw [if_neg hdue.out] at hrr
          subst hrr
          go_wp2
          go_ret2
          exact ⟨rfl, LE7.out.below (below_drewN (Below.refl _ _) nq)⟩
    · have hc' : Stp.e (.append logN s) S ≠ 0 := by simp only [Stp.e]; exact fun e => hc (Int.ofNat.inj e)
      have hrr := HRR.out
      rw [if_pos (by simpa using hc)] at hrr
      subst hrr
      clear HRR
      have le6 := LE6.out
      unfold Lg.failed at le6
      rw [if_neg hc'] at le6
      obtain ⟨P6, lw6, -, -⟩ := id le6
      have HN := Lib.hid (number_is (fun _ => (hF.resolve_right fun hx => hc hx.appendE)) EV6.out lw6.sent lw6.three)
      rcases ev6 with ⟨hx, -⟩ | ⟨-, f, rfl, -⟩
      · exact absurd hx hc'
      have le6 := Lib.hid le6
      clear lw6
      go_wp2_with fail
      refine HN.out.mono ?_
      rintro e w7 ⟨rfl, b7⟩
      go_wp2
      go_ret2
      exact ⟨rfl, le6.out.below b7⟩
end
end Go.Proofs.YtfbjmhipjfjaeaaGreatDoor

namespace Go.Proofs.YtfbjmhipjfjaeaaGreatDoor
open Go.ChangeShapes Go.WideShapes Go.ChangeAt Go.RowKit Go.Maps Pl
set_option linter.unusedVariables false
set_option linter.unusedSimpArgs false
def Pl.Lg.sync (S : Dk) (L : Lg) : Dk × Lg × Int := if L.dead = true then (S, L, 262) else L.synced S
def Pl.Lg.close (S : Dk) (L : Lg) : Dk × Lg × Int :=
  if L.dead = true then (S, L, 262)
  else if (L.synced S).2.2 = 0 then ((L.synced S).1, { (L.synced S).2.1 with shut := true }, 0) else L.synced S
theorem Pl.Lg.alive {L : Lg} (hd : L.dead = false) : L.broken = false := by
  unfold Lg.dead at hd
  cases h1 : L.broken with
  | true => rw [h1] at hd; cases hd
  | false => rfl
theorem Pl.Lg.synced_code {S : Dk} {L : Lg} (h : (L.synced S).2.2 ≠ 0) : ¬ S.Calm := by
  intro hc
  unfold Lg.synced at h
  split at h
  · exact h rfl
  · exact h (by simp only; rw [hc.appendE]; rfl)
def CEnd (P : Nat → Prop) (w : World) (l b : Nat) (a : Addr) (r : Dk × Lg × Int) (e : Ending) (w' : World) : Prop :=
  e = .returned (.int .i64 r.2.2) ∧ LgEnd P w l b a r.1 r.2.1 w'
section
variable {P : Nat → Prop} {w : World} {l b : Nat} {a : Addr} {j : Nat} {S : Dk} {L : Lg}
set_option maxRecDepth 100000 in
theorem logSyn_any (h : LW P w l b a S L) (hI : S.Inv) (hS : S.Small j) (hj : j ≤ 4194100) (hF : NumF ∨ S.Calm) :
    Calls Tryz.prog 9 #[.pointer (some ⟨l, 0, none⟩)] w (CEnd P w l b a (L.sync S)) := by
  obtain ⟨rr, hrr⟩ : ∃ rr, L.sync S = rr := ⟨_, rfl⟩
  rw [hrr]
  unfold Lg.sync at hrr
  cases hd : L.dead with
  | true =>
    rw [if_pos hd] at hrr
    have HRR := Lib.hid hrr
    have HR := Lib.hid (ready_any h.log h.sent)
    rw [if_pos hd] at HR
    have HN := Lib.hid (number_broken h.sent h.three)
    have HW := Lib.hid h
    clear h hd hrr hI hS
    go_enter Tryz.func9, Tryz.ntmps9
    go_wp2_with fail
    refine HR.out.mono ?_
    rintro e w2 ⟨rfl, rfl⟩
    go_wp2_with fail
    refine HN.out.mono ?_
    rintro e w3 ⟨rfl, b3⟩
    go_wp2
    go_ret
    rw [← HRR.out]
    exact ⟨rfl, (LgEnd.refl HW.out).below b3⟩
  | false =>
    rw [if_neg (by rw [hd]; decide)] at hrr
    have hbr := Lg.alive hd
    have HR := Lib.hid (ready_any h.log h.sent)
    rw [if_neg (by rw [hd]; decide)] at HR
    have HY := Lib.hid (logSync_any h hI hS (by omega) hbr)
    have HF : Hid (rr.2.2 ≠ 0 → NumF) := Lib.hid fun hx => hF.resolve_right (Lg.synced_code (by rw [hrr]; exact hx))
    rw [hrr] at HY
    clear h hI hS hd hrr hbr hF
    go_enter Tryz.func9, Tryz.ntmps9
    go_wp2_with fail
    refine HR.out.mono ?_
    rintro e w2 ⟨rfl, rfl⟩
    go_wp2_with fail
    refine HY.out.mono ?_
    rintro e w3 ⟨v, rfl, le, ev⟩
    obtain ⟨P3, lw3, -, -⟩ := id le
    have HN := Lib.hid (number_is HF.out ev lw3.sent lw3.three)
    have LE := Lib.hid le
    clear le ev lw3
    go_wp2_with fail
    refine HN.out.mono ?_
    rintro e w4 ⟨rfl, b4⟩
    go_wp2
    go_ret
    exact ⟨rfl, LE.out.below b4⟩
set_option maxRecDepth 100000 in
theorem logClose_any (h : LW P w l b a S L) (hI : S.Inv) (hS : S.Small j) (hj : j ≤ 4194100) (hF : NumF ∨ S.Calm) :
    Calls Tryz.prog 11 #[.pointer (some ⟨l, 0, none⟩)] w (CEnd P w l b a (L.close S)) := by
  obtain ⟨rr, hrr⟩ : ∃ rr, L.close S = rr := ⟨_, rfl⟩
  rw [hrr]
  unfold Lg.close at hrr
  cases hd : L.dead with
  | true =>
    rw [if_pos hd] at hrr
    have HRR := Lib.hid hrr
    have HR := Lib.hid (ready_any h.log h.sent)
    rw [if_pos hd] at HR
    have HN := Lib.hid (number_broken h.sent h.three)
    have HW := Lib.hid h
    clear h hd hrr hI hS
    go_enter Tryz.func11, Tryz.ntmps11
    go_wp2_with fail
    refine HR.out.mono ?_
    rintro e w2 ⟨rfl, rfl⟩
    go_wp2_with fail
    refine HN.out.mono ?_
    rintro e w3 ⟨rfl, b3⟩
    go_wp2
    go_ret
    rw [← HRR.out]
    exact ⟨rfl, (LgEnd.refl HW.out).below b3⟩
  | false =>
    rw [if_neg (by rw [hd]; decide)] at hrr
    have hbr := Lg.alive hd
    have HR := Lib.hid (ready_any h.log h.sent)
    rw [if_neg (by rw [hd]; decide)] at HR
    have HY := Lib.hid (logSync_any h hI hS (by omega) hbr)
    have HF : Hid ((L.synced S).2.2 ≠ 0 → NumF) := Lib.hid fun hx => hF.resolve_right (Lg.synced_code hx)
    obtain ⟨r1, hr1⟩ : ∃ r1, L.synced S = r1 := ⟨_, rfl⟩
    rw [hr1] at HY HF hrr
    have HRR := Lib.hid hrr
    clear h hI hS hd hrr hbr hF hr1
    go_enter Tryz.func11, Tryz.ntmps11
    go_wp2_with fail
    refine HR.out.mono ?_
    rintro e w2 ⟨rfl, rfl⟩
    go_wp2_with fail
    refine HY.out.mono ?_
    rintro e w3 ⟨v, rfl, le, ev⟩
    obtain ⟨P3, lw3, -, -⟩ := id le
    have HN := Lib.hid (number_is HF.out ev lw3.sent lw3.three)
    have h7 : w3.cell? ⟨l, 7, none⟩ = some (.bool r1.2.1.shut) := lw3.log.cell 7
    have f7 := lw3.log.free 7
    have LE := Lib.hid le
    clear le lw3
    rcases ev with ⟨hc, rfl⟩ | ⟨hc, f, rfl, -⟩
    · have hc := Lib.hid hc
      go_wp2
      go_ret
      rw [← HRR.out, if_pos hc.out]
      exact ⟨rfl, LE.out.put 7 _ rfl⟩
    · have hc := Lib.hid hc
      go_wp2_with fail
      refine HN.out.mono ?_
      rintro e w4 ⟨rfl, b4⟩
      go_wp2
      go_ret
      rw [← HRR.out, if_neg hc.out]
      exact ⟨rfl, LE.out.below b4⟩
/-- What is told of a log. -/
theorem last_is (h : LogAt w l b L) : Calls Tryz.prog 13 #[.pointer (some ⟨l, 0, none⟩)] w fun e w' => e = .returned (.int .u64 L.last) ∧ w' = w := by
  have h3 : w.cell? ⟨l, 3, none⟩ = some (.int .u64 L.last) := h.cell 3
  clear h
  go_enter Tryz.func13, Tryz.ntmps13
  go_wp2
  go_ret
  exact ⟨rfl, rfl⟩
theorem lasting_is (h : LogAt w l b L) : Calls Tryz.prog 14 #[.pointer (some ⟨l, 0, none⟩)] w fun e w' => e = .returned (.int .u64 L.lasting) ∧ w' = w := by
  have h3 : w.cell? ⟨l, 4, none⟩ = some (.int .u64 L.lasting) := h.cell 4
  clear h
  go_enter Tryz.func14, Tryz.ntmps14
  go_wp2
  go_ret
  exact ⟨rfl, rfl⟩
theorem size_is (h : LogAt w l b L) : Calls Tryz.prog 15 #[.pointer (some ⟨l, 0, none⟩)] w fun e w' => e = .returned (.int .i64 L.size) ∧ w' = w := by
  have h3 : w.cell? ⟨l, 5, none⟩ = some (.int .i64 L.size) := h.cell 5
  clear h
  go_enter Tryz.func15, Tryz.ntmps15
  go_wp2
  go_ret
  exact ⟨rfl, rfl⟩
theorem broken_is (h : LogAt w l b L) : Calls Tryz.prog 12 #[.pointer (some ⟨l, 0, none⟩)] w fun e w' => e = .returned (.bool L.broken) ∧ w' = w := by
  have h3 : w.cell? ⟨l, 6, none⟩ = some (.bool L.broken) := h.cell 6
  clear h
  go_enter Tryz.func12, Tryz.ntmps12
  go_wp2
  go_ret
  exact ⟨rfl, rfl⟩
end
end Go.Proofs.YtfbjmhipjfjaeaaGreatDoor
