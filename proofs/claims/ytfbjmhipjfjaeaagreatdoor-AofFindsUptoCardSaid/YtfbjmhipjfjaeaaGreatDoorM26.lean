/- aof: Open at any disk's blocks, of no disk, of no policy; the calls of no log. aof: what sure sees, plainly. aof: the disk under a log's calls stays sound and small; sure. -/
import Derived.Test.YtfbjmhipjfjaeaaGreatDoorM25
import Derived.Laws.StructEq
namespace Go.Proofs.YtfbjmhipjfjaeaaGreatDoor
open Go.ChangeShapes Go.WideShapes Go.ChangeAt Go.RowKit Go.Maps Pl
set_option linter.unusedVariables false
set_option linter.unusedSimpArgs false
section
variable {P : Nat → Prop} {w : World} {b : Nat} {a : Addr} {j : Nat} {S : Dk}
theorem open_any {pol every cut size : Int} {R : Dk × Int} {bs : List Tx} {last : Nat} (h : DW P w b a S) (hI : S.Inv) (hS : S.Small j) (hj : j ≤ 4193000)
    (hp : (if pol = 2 then decide (1 ≤ every) else if pol = 1 ∨ pol = 3 then decide (every = 0) else false) = true) (h1 : (clean S).2 = 0) (ho : Opn (clean S).1 R bs cut size last) (hR : R.2 = 0) :
    Calls Tryz.prog 7 #[.pointer (some ⟨b, 0, none⟩), .int .i64 pol, .int .i64 every] w (OpenOk P w b a R.1 ⟨pol, every, last, last, size, false, false⟩ bs cut) := by
  refine (open_any0 h.bounded (fun k hk => hk.2) hI hS hj hp h1 ho hR).mono ?_
  rintro e w' ⟨l, bv, base, P', he, hl, hk, hw, ht⟩
  exact ⟨l, bv, base, P', he, hl, fun k h => (hk k h).imp (·.1) id, hw.mono fun k hk _ => hk.1, ht⟩
def OpenNo (c : Int) (w : World) (e : Ending) (w' : World) : Prop := e = .returned (.tuple #[.pointer none, .slice none 0 0, .agg #[.int .i64 0, .int .i64 0, .int .i64 0, .int .u64 0], .int .i64 c]) ∧ Below w.heap.size w w'
set_option maxRecDepth 100000 in
theorem open_nil (pol every : Int) (w : World) : Calls Tryz.prog 7 #[.pointer none, .int .i64 pol, .int .i64 every] w (OpenNo 1 w) := by
  have hfa : Hid (Fnd ((w.alloc (.cells #[.pointer none] 45)).alloc (.cells #[.int .i64 0, .int .i64 0, .int .i64 0, .int .u64 0] 26)) (w.heap.size + 1) (.int .i64 0) (.int .i64 0) (.int .i64 0) (.int .u64 0)) := Lib.hid (by
    have := alloc_here (w.alloc (.cells #[.pointer none] 45)) (.cells #[.int .i64 0, .int .i64 0, .int .i64 0, .int .u64 0] 26)
    rw [show (w.alloc (.cells #[.pointer none] 45)).heap.size = w.heap.size + 1 by simp] at this
    exact this)
  go_enter Tryz.func7, Tryz.ntmps7
  go_wp2
  (try simp only [Exit.inBlock, Exit.then])
  refine bodyPost_ret (open_end rfl rfl hfa.out) rfl ?_
  exact ⟨rfl, ((Below.refl w.heap.size w).alloc (Nat.le_refl _) _).alloc (by simp) _⟩
set_option maxRecDepth 100000 in
theorem open_bad {pol every : Int} (hp : (if pol = 2 then decide (1 ≤ every) else if pol = 1 ∨ pol = 3 then decide (every = 0) else false) = false) (b : Nat) (w : World) :
    Calls Tryz.prog 7 #[.pointer (some ⟨b, 0, none⟩), .int .i64 pol, .int .i64 every] w (OpenNo 260 w) := by
  have HPol := Lib.hid (policies_any pol every)
  rw [hp] at HPol
  clear hp
  have hfa : Hid (Fnd ((w.alloc (.cells #[.pointer (some ⟨b, 0, none⟩)] 45)).alloc (.cells #[.int .i64 0, .int .i64 0, .int .i64 0, .int .u64 0] 26)) (w.heap.size + 1) (.int .i64 0) (.int .i64 0) (.int .i64 0) (.int .u64 0)) := Lib.hid (by
    have := alloc_here (w.alloc (.cells #[.pointer (some ⟨b, 0, none⟩)] 45)) (.cells #[.int .i64 0, .int .i64 0, .int .i64 0, .int .u64 0] 26)
    rw [show (w.alloc (.cells #[.pointer (some ⟨b, 0, none⟩)] 45)).heap.size = w.heap.size + 1 by simp] at this
    exact this)
  go_enter Tryz.func7, Tryz.ntmps7
  go_wp2_with fail
  refine (HPol.out _).mono ?_
  rintro e w1 ⟨rfl, rfl⟩
  go_wp2
  (try simp only [Exit.inBlock, Exit.then])
  refine bodyPost_ret (open_end rfl rfl hfa.out) rfl ?_
  exact ⟨rfl, ((Below.refl w.heap.size w).alloc (Nat.le_refl _) _).alloc (by simp) _⟩
end
theorem append_nil (s : ByteArray) (w : World) : Calls Tryz.prog 8 #[.pointer none, .string s] w fun e w' => e = .returned (.tuple #[.int .u64 0, .int .i64 1]) ∧ w' = w := by
  go_enter Tryz.func8, Tryz.ntmps8
  go_wp2
  go_ret2
  exact ⟨rfl, rfl⟩
theorem rewrite_nil (s : ByteArray) (w : World) : Calls Tryz.prog 10 #[.pointer none, .string s] w fun e w' => e = .returned (.int .i64 1) ∧ w' = w := by
  go_enter Tryz.func10, Tryz.ntmps10
  go_wp2
  go_ret
  exact ⟨rfl, rfl⟩
theorem sync_nil (w : World) : Calls Tryz.prog 9 #[.pointer none] w fun e w' => e = .returned (.int .i64 1) ∧ w' = w := by
  go_enter Tryz.func9, Tryz.ntmps9
  go_wp2
  go_ret
  exact ⟨rfl, rfl⟩
theorem close_nil (w : World) : Calls Tryz.prog 11 #[.pointer none] w fun e w' => e = .returned (.int .i64 1) ∧ w' = w := by
  go_enter Tryz.func11, Tryz.ntmps11
  go_wp2
  go_ret
  exact ⟨rfl, rfl⟩
theorem broken_nil (w : World) : Calls Tryz.prog 12 #[.pointer none] w fun e w' => e = .returned (.bool true) ∧ w' = w := by
  go_enter Tryz.func12, Tryz.ntmps12
  go_wp2
  go_ret
  exact ⟨rfl, rfl⟩
theorem last_nil (w : World) : Calls Tryz.prog 13 #[.pointer none] w fun e w' => e = .returned (.int .u64 0) ∧ w' = w := by
  go_enter Tryz.func13, Tryz.ntmps13
  go_wp2
  go_ret
  exact ⟨rfl, rfl⟩
theorem lasting_nil (w : World) : Calls Tryz.prog 14 #[.pointer none] w fun e w' => e = .returned (.int .u64 0) ∧ w' = w := by
  go_enter Tryz.func14, Tryz.ntmps14
  go_wp2
  go_ret
  exact ⟨rfl, rfl⟩
theorem size_nil (w : World) : Calls Tryz.prog 15 #[.pointer none] w fun e w' => e = .returned (.int .i64 0) ∧ w' = w := by
  go_enter Tryz.func15, Tryz.ntmps15
  go_wp2
  go_ret
  exact ⟨rfl, rfl⟩
end Go.Proofs.YtfbjmhipjfjaeaaGreatDoor

namespace Go.Proofs.YtfbjmhipjfjaeaaGreatDoor
open Pl
set_option linter.unusedVariables false
set_option linter.unusedSimpArgs false
namespace Pl
def su4 (h : Tx) : Dk := ⟨[⟨h, h.length⟩], [(logN, 0)], [(logN, 0)], [], [], 4, false⟩
def su5 (h : Tx) (n : Nat) : Dk := ⟨[⟨h, n⟩], [(logN, 0)], [(logN, 0)], [], [], 5, false⟩
def su6 (h : Tx) : Dk := ⟨[⟨h, h.length⟩], [(logN, 0)], [(logN, 0)], [], [], 6, false⟩
def su7 (h : Tx) : Dk := ⟨[⟨h, h.length⟩, ⟨[], 0⟩], [(logN, 0), (tempN, 1)], [(logN, 0)], [⟨1, tempN, [], 1⟩], [], 7, false⟩
def su8 (h g : Tx) : Dk := ⟨[⟨h, h.length⟩, ⟨g, 0⟩], [(logN, 0), (tempN, 1)], [(logN, 0)], [⟨1, tempN, [], 1⟩], [], 8, false⟩
def su9 (h g : Tx) : Dk := ⟨[⟨h, h.length⟩, ⟨g, g.length⟩], [(logN, 0), (tempN, 1)], [(logN, 0)], [⟨1, tempN, [], 1⟩], [], 9, false⟩
def su10 (h g : Tx) : Dk := ⟨[⟨h, h.length⟩, ⟨g, g.length⟩], [(logN, 1)], [(logN, 0)], [⟨1, tempN, [], 1⟩, ⟨2, tempN, logN, 1⟩], [], 10, false⟩
def su11 (h g : Tx) : Dk := ⟨[⟨h, h.length⟩, ⟨g, g.length⟩], [(logN, 1)], [(logN, 1)], [], [], 11, false⟩
def su12 (h g : Tx) : Dk := ⟨[⟨h, h.length⟩, ⟨g, g.length⟩], [(logN, 1)], [(logN, 1)], [], [], 12, false⟩
def sa1 : Dk := ⟨[⟨[], 0⟩], [(logN, 0)], [], [⟨1, logN, [], 0⟩], [], 1, false⟩
def sa2 (h : Tx) : Dk := ⟨[⟨h, 0⟩], [(logN, 0)], [], [⟨1, logN, [], 0⟩], [], 2, false⟩
def sa3 (h : Tx) : Dk := ⟨[⟨h, h.length⟩], [(logN, 0)], [], [⟨1, logN, [], 0⟩], [], 3, false⟩
theorem sa_2 (h : Tx) : sa1.appendS logN h = sa2 h := by
  show (⟨[⟨[] ++ h.take h.length, 0⟩], [(logN, 0)], [], [⟨1, logN, [], 0⟩], [], 2, false⟩ : Dk) = _
  rw [List.take_length, List.nil_append]; rfl
theorem su_new (h : Tx) : goL [.create logN, .append logN h, .sync logN, .names] Dk.new = (su4 h, 0) := by
  have e2 : Stp.f (.append logN h) sa1 = sa2 h := sa_2 h
  have e1 : Stp.f (.create logN) Dk.new = sa1 := rfl
  have e3 : Stp.f (.sync logN) (sa2 h) = sa3 h := rfl
  have e4 : Stp.f .names (sa3 h) = su4 h := rfl
  unfold goL
  rw [if_pos (show Stp.e (.create logN) Dk.new = 0 from rfl), e1]
  unfold goL
  rw [if_pos (show Stp.e (.append logN h) sa1 = 0 from rfl), e2]
  unfold goL
  rw [if_pos (show Stp.e (.sync logN) (sa2 h) = 0 from rfl), e3, goL1, e4]
  rfl
theorem su_5 (h e : Tx) : (su4 h).appendS logN e = su5 (h ++ e) h.length ∧ (su4 h).appendE logN = 0 := ⟨by
  show (⟨[⟨h ++ e.take e.length, h.length⟩], [(logN, 0)], [(logN, 0)], [], [], 5, false⟩ : Dk) = _
  rw [List.take_length]; rfl, rfl⟩
theorem su_6 (h : Tx) (n : Nat) : (su5 h n).syncS logN = su6 h ∧ (su5 h n).appendE logN = 0 := ⟨rfl, rfl⟩
theorem su_8 (h g : Tx) : (su7 h).appendS tempN g = su8 h g := by
  show (⟨[⟨h, h.length⟩, ⟨[] ++ g.take g.length, 0⟩], [(logN, 0), (tempN, 1)], [(logN, 0)], [⟨1, tempN, [], 1⟩], [], 8, false⟩ : Dk) = _
  rw [List.take_length, List.nil_append]; rfl
theorem su_rw (h g : Tx) : goL [.create tempN, .append tempN g, .sync tempN, .rename tempN logN] (su6 h) = (su10 h g, 0) := by
  have e1 : Stp.f (.create tempN) (su6 h) = su7 h := rfl
  have e2 : Stp.f (.append tempN g) (su7 h) = su8 h g := su_8 h g
  have e3 : Stp.f (.sync tempN) (su8 h g) = su9 h g := rfl
  have e4 : Stp.f (.rename tempN logN) (su9 h g) = su10 h g := rfl
  unfold goL
  rw [if_pos (show Stp.e (.create tempN) (su6 h) = 0 from rfl), e1]
  unfold goL
  rw [if_pos (show Stp.e (.append tempN g) (su7 h) = 0 from rfl), e2]
  unfold goL
  rw [if_pos (show Stp.e (.sync tempN) (su8 h g) = 0 from rfl), e3, goL1, e4]
  rfl
theorem su_11 (h g : Tx) : (su10 h g).namesS = su11 h g ∧ (su10 h g).namesE = 0 := ⟨rfl, rfl⟩
theorem su_calm4 (h : Tx) : (su4 h).Calm := ⟨rfl, rfl⟩
theorem su_calm6 (h : Tx) : (su6 h).Calm := ⟨rfl, rfl⟩
theorem su_calm11 (h g : Tx) : (su11 h g).Calm := ⟨rfl, rfl⟩
theorem su_clean0 : clean Dk.new = (Dk.new, 0) := rfl
theorem su_clean11 (h g : Tx) : clean (su11 h g) = (su11 h g, 0) := rfl
theorem su_has11 (h g : Tx) : (su11 h g).hasN logN = true ∧ (su11 h g).askE logN = 0 ∧ (su11 h g).readT logN = g ∧ (su11 h g).readN logN = g.length := ⟨rfl, rfl, rfl, rfl⟩
theorem su_long (h g : Tx) : rdLong (su11 h g) g.length 28 false = (su12 h g, 0) := by
  have e : rdSync (su11 h g) g.length 28 false = (su11 h g, 0) := by
    unfold rdSync
    rw [if_neg (by decide), (su_has11 h g).2.2.2, if_neg (Nat.lt_irrefl _)]
  unfold rdLong
  rw [e, if_pos rfl, goL1]
  rfl
def suA : Lg := ⟨1, 0, 0, 0, 16, false, false⟩
def suB : Lg := ⟨1, 0, 1, 1, 43, false, false⟩
def suC : Lg := ⟨1, 0, 1, 1, 44, false, false⟩
def suD : Lg := ⟨1, 0, 1, 1, 44, false, true⟩
def suE1 : Tx := encL 1 [97, 98]
def suG : Tx := headT 1 ++ encL 1 [97, 108, 108]
theorem su_open0 : Opn (clean Dk.new).1 (su4 (headT 1), 0) [] 0 16 0 := by
  have := Opn.create (S := Dk.new) rfl
  unfold makeNew at this
  rw [su_new] at this
  exact this
theorem su_append : suA.append (su4 (headT 1)) [97, 98] = (su6 (headT 1 ++ suE1), suB, 1, 0) := by
  have hl : suE1.length = 27 := by unfold suE1; rw [encL_length]; rfl
  unfold Lg.append
  rw [if_neg (by decide)]
  show (if (su4 (headT 1)).appendE logN ≠ 0 then _ else if (suA.more suE1).due = true then _ else _) = _
  rw [(su_5 _ suE1).2, if_neg (by decide), if_pos (by rfl)]
  have hm : suA.more suE1 = ⟨1, 0, 1, 0, 43, false, false⟩ := by
    unfold Lg.more
    rw [hl]; rfl
  have hs : Lg.synced ((su4 (headT 1)).appendS logN suE1) (suA.more suE1) = (su6 (headT 1 ++ suE1), suB, 0) := by
    rw [(su_5 _ suE1).1, hm]
    unfold Lg.synced
    rw [if_neg (by decide), (su_6 _ _).2, (su_6 _ _).1]
    rfl
  show ((Lg.synced ((su4 (headT 1)).appendS logN suE1) (suA.more suE1)).1, (Lg.synced ((su4 (headT 1)).appendS logN suE1) (suA.more suE1)).2.1, _, _) = _
  rw [hs]
  rfl
theorem su_sync (h : Tx) : suB.sync (su6 h) = (su6 h, suB, 0) := rfl
theorem suG_length : suG.length = 44 := by unfold suG; rw [List.length_append, encL_length, headT_length (by decide)]; rfl
theorem su_anew : suB.anew [97, 108, 108] = suG := rfl
theorem su_rewrite (h : Tx) : suB.rewrite (su6 h) [97, 108, 108] = (su11 h suG, suC, 0) := by
  unfold Lg.rewrite Lg.steps
  rw [if_neg (by decide), su_anew, su_rw, if_neg (fun hx => hx rfl), (su_11 h suG).2, if_neg (fun hx => hx rfl), (su_11 h suG).1, suG_length]
  rfl
theorem su_close (h : Tx) : suC.close (su11 h suG) = (su11 h suG, suD, 0) := rfl
theorem su_close2 (h : Tx) : suD.close (su11 h suG) = (su11 h suG, suD, 262) := rfl
theorem su_tx : LogTx suG 1 [[97, 108, 108]] (encL 1 [97, 108, 108]) 28 false :=
  ⟨rfl, by decide, by decide, by
    have := scan_row (f := 1) (by decide) (l := [[97, 108, 108]]) (by decide) (fun b hb => by rw [List.mem_singleton.1 hb]; decide)
    have e : encAll (grps 1 [[97, 108, 108]]) = encL 1 [97, 108, 108] := by simp [encAll, grps]
    rw [e, encL_length] at this
    exact this, by rw [encL_length]; decide⟩
theorem su_open11 (h : Tx) : Opn (clean (su11 h suG)).1 (su12 h suG, 0) [[97, 108, 108]] 0 44 1 := by
  have := Opn.long (S := su11 h suG) suG (encL 1 [97, 108, 108]) 1 28 [[97, 108, 108]] false rfl rfl rfl su_tx
  rw [su_long, encL_length] at this
  exact this
end Pl
end Go.Proofs.YtfbjmhipjfjaeaaGreatDoor

namespace Go.Proofs.YtfbjmhipjfjaeaaGreatDoor
open Go.ChangeShapes Go.WideShapes Go.ChangeAt Go.RowKit Go.Maps Pl
set_option linter.unusedVariables false
set_option linter.unusedSimpArgs false
section
variable {S : Dk} {L : Lg} {j : Nat}
theorem Pl.Lg.synced_inv (h : S.Inv) : (L.synced S).1.Inv := by
  unfold Lg.synced
  split
  · exact h
  · exact h.syn _
theorem Pl.Lg.synced_small (h : S.Small j) : (L.synced S).1.Small (j + 1) := by
  unfold Lg.synced
  split
  · exact h.mono (by omega)
  · exact h.syn _
theorem Pl.Lg.append_inv (h : S.Inv) (body : Tx) : (L.append S body).1.Inv := by
  unfold Lg.append
  split
  · exact h
  · simp only
    split
    · exact h.append _ _
    · split
      · exact Lg.synced_inv (h.append _ _)
      · exact h.append _ _
theorem Pl.Lg.append_small (h : S.Small j) {body : Tx} (hb : body.length ≤ 33554400) : (L.append S body).1.Small (j + 2) := by
  have hl : (encL (L.last + 1) body).length ≤ 33554432 := by rw [encL_length]; omega
  unfold Lg.append
  split
  · exact h.mono (by omega)
  · simp only
    split
    · exact (h.append _ hl).mono (by omega)
    · split
      · exact Lg.synced_small (h.append _ hl)
      · exact (h.append _ hl).mono (by omega)
theorem Pl.Lg.sync_inv (h : S.Inv) : (L.sync S).1.Inv := by
  unfold Lg.sync
  split
  · exact h
  · exact Lg.synced_inv h
theorem Pl.Lg.sync_small (h : S.Small j) : (L.sync S).1.Small (j + 1) := by
  unfold Lg.sync
  split
  · exact h.mono (by omega)
  · exact Lg.synced_small h
theorem Pl.Lg.close_inv (h : S.Inv) : (L.close S).1.Inv := by
  unfold Lg.close
  split
  · exact h
  · split
    · exact Lg.synced_inv h
    · exact Lg.synced_inv h
theorem Pl.Lg.close_small (h : S.Small j) : (L.close S).1.Small (j + 1) := by
  unfold Lg.close
  split
  · exact h.mono (by omega)
  · split
    · exact Lg.synced_small h
    · exact Lg.synced_small h
theorem Pl.Lg.rewrite_inv (h : S.Inv) (body : Tx) : (L.rewrite S body).1.Inv := by
  have h1 := goL_inv (L.steps body) h
  unfold Lg.rewrite
  split
  · exact h
  · split
    · simp only
      split
      · exact h1.remove _
      · exact h1
    · split
      · exact h1.syncNames
      · exact h1.syncNames
theorem Pl.Lg.rewrite_small (h : S.Small j) {body : Tx} (hb : body.length ≤ 33554300) : (L.rewrite S body).1.Small (j + 5) := by
  have h1 : (goL (L.steps body) S).1.Small (j + 4) := goL_small (L.steps_ok hb) h
  unfold Lg.rewrite
  split
  · exact h.mono (by omega)
  · split
    · simp only
      split
      · exact h1.remove tempN_len
      · exact h1.mono (by omega)
    · split
      · exact h1.syncNames
      · exact h1.syncNames
end
theorem LgEnd.belowOf {P : Nat → Prop} {B : Nat} {w w' : World} {l b : Nat} {a : Addr} {S : Dk} {L : Lg} (h : LgEnd P w l b a S L w') (hP : ∀ k, P k → B ≤ k) (hl : B ≤ l) (hB : B ≤ w.heap.size) :
    ∃ P', LW P' w' l b a S L ∧ (∀ k, P' k → B ≤ k) ∧ Below B w w' := by
  obtain ⟨P', h1, h2, h3⟩ := h
  exact ⟨P', h1, fun k hk => (h2 k hk).elim (hP k) (fun h => Nat.le_trans hB h), h3.below (fun k hk => hk.elim (hP k) (fun e => e ▸ hl)) hB⟩
theorem OpenOk.belowOf {P : Nat → Prop} {B : Nat} {w w' : World} {b : Nat} {a : Addr} {S : Dk} {L : Lg} {bs : List Tx} {cut : Int} {e : Ending} (h : OpenOk P w b a S L bs cut e w') (hP : ∀ k, P k → B ≤ k) (hB : B ≤ w.heap.size) :
    ∃ l bv base P', e = .returned (.tuple #[.pointer (some ⟨l, 0, none⟩), bv, .agg #[.int .i64 bs.length, .int .i64 L.size, .int .i64 cut, .int .u64 L.last], .int .i64 0]) ∧ LW P' w' l b a S L ∧ (∀ k, P' k → B ≤ k) ∧ Below B w w' ∧ Texts w' base bv bs ∧ B ≤ base ∧ B ≤ l := by
  obtain ⟨l, bv, base, P', he, h1, h2, h3, h4, h5, h6⟩ := h
  exact ⟨l, bv, base, P', he, h1, fun k hk => (h2 k hk).elim (hP k) (fun h => Nat.le_trans hB h), h3.below hP hB, h4, Nat.le_trans hB h5, Nat.le_trans hB h6⟩
theorem LW.dw {P : Nat → Prop} {w : World} {l b : Nat} {a : Addr} {S : Dk} {L : Lg} (h : LW P w l b a S L) : DW P w b a S := ⟨h.one, h.sent, h.n1, h.three⟩
theorem LW.stepsC {P : Nat → Prop} {w : World} {l b : Nat} {a : Addr} {S : Dk} {L : Lg} (h : LW P w l b a S L) : Calls Tryz.prog 29 #[.pointer (some ⟨b, 0, none⟩)] w fun e w' => e = .returned (.int .i64 S.steps) ∧ w = w' := by
  obtain ⟨F, d, hp⟩ := h.one
  exact steps_any d
theorem new_dw {a : Addr} {w : World} (hs : Sent w a) (h3 : 3 ≤ w.heap.size) : Calls Tryz.prog 20 #[] w fun e w' => ∃ b, e = .returned (.pointer (some ⟨b, 0, none⟩)) ∧ DW (fun k => w.heap.size ≤ k) w' b a Dk.new ∧ Below w.heap.size w w' :=
  (new_any w).mono fun e w' ⟨b, F, he, d, hF, hb⟩ => ⟨b, he, ⟨⟨F, d, hF⟩, hs.kept (K := fun _ => False) (Wr.of_below hb) (by omega) (fun _ _ h => h), fun k hk => Nat.le_trans h3 hk, Nat.le_trans h3 hb.size⟩, hb⟩
theorem Texts.first {base : Nat} {w : World} {v : Value} {t : Tx} (h : Texts w base v [t]) : ∃ g cp, v = .slice (some ⟨g, 0, none⟩) 1 cp ∧ base ≤ g ∧ w.cell? ⟨g, 0, none⟩ = some (.string (str t)) := by
  rcases h.2 with ⟨h1, h2⟩ | ⟨g, cap, cur, h1, h2, h3, h4, h5, h6, h7⟩
  · simp at h2
  · refine ⟨g, cap, h1, h2, ?_⟩
    have : (cur.toList.take 1)[0]? = some (.string (str t)) := by
      have e : [t].length * 1 = 1 := rfl
      rw [e] at h7
      rw [h7]; rfl
    rw [List.getElem?_take_of_lt (by omega), Array.getElem?_toList] at this
    simp [World.cell?, h3, this]
set_option maxRecDepth 100000 in
set_option maxHeartbeats 8000000 in
theorem sure_any {a : Addr} {w : World} (hs : Sent w a) (h3 : 3 ≤ w.heap.size) : Calls Tryz.prog 16 #[] w fun e w' => e = .returned (.bool true) ∧ Below w.heap.size w w' := by
  have HNew := Lib.hid (new_dw hs h3)
  have i4 : (su4 (headT 1)).Inv := by have := goL_inv [.create logN, .append logN (headT 1), .sync logN, .names] Dk.Inv.new; rw [su_new] at this; exact this
  have s4 : (su4 (headT 1)).Small 4 := by
    have := goL_small (xs := [.create logN, .append logN (headT 1), .sync logN, .names]) (fun x hx => by
      simp only [List.mem_cons, List.not_mem_nil, or_false] at hx
      rcases hx with rfl | rfl | rfl | rfl
      · exact logN_len
      · exact ⟨logN_len, Nat.le_trans (headT_le 1) (by decide)⟩
      · exact logN_len
      · trivial) Dk.Small.new
    rw [su_new] at this; exact this
  obtain ⟨D6, hD6⟩ : ∃ D6, su6 (headT 1 ++ suE1) = D6 := ⟨_, rfl⟩
  have i6 : D6.Inv := by have := Lg.append_inv (L := suA) i4 [97, 98]; rw [su_append, hD6] at this; exact this
  have s6 : D6.Small 6 := by have := Lg.append_small (L := suA) s4 (body := [97, 98]) (by decide); rw [su_append, hD6] at this; exact this
  obtain ⟨D11, hD11⟩ : ∃ D11, su11 (headT 1 ++ suE1) suG = D11 := ⟨_, rfl⟩
  have eRw : suB.rewrite D6 [97, 108, 108] = (D11, suC, 0) := by rw [← hD6, su_rewrite, hD11]
  have i11 : D11.Inv := by have := Lg.rewrite_inv (L := suB) i6 [97, 108, 108]; rw [eRw] at this; exact this
  have s11 : D11.Small 11 := by have := Lg.rewrite_small (L := suB) s6 (body := [97, 108, 108]) (by decide); rw [eRw] at this; exact this
  have c4 : (su4 (headT 1)).Calm := su_calm4 _
  have c6 : D6.Calm := by rw [← hD6]; exact su_calm6 _
  have c11 : D11.Calm := by rw [← hD11]; exact su_calm11 _ _
  have H4 := Lib.hid (And.intro i4 (And.intro s4 c4))
  have H6 := Lib.hid (And.intro i6 (And.intro s6 c6))
  have H11 := Lib.hid (And.intro i11 (And.intro s11 c11))
  have eAp := su_append
  rw [hD6] at eAp
  have eSy : suB.sync D6 = (D6, suB, 0) := by rw [← hD6]; exact su_sync _
  have eCl : suC.close D11 = (D11, suD, 0) := by rw [← hD11]; exact su_close _
  have eC2 : suD.close D11 = (D11, suD, 262) := by rw [← hD11]; exact su_close2 _
  have eO1 := su_clean0
  have eO2 : (clean D11).2 = 0 := by rw [← hD11]; rfl
  obtain ⟨D12, hD12⟩ : ∃ D12, su12 (headT 1 ++ suE1) suG = D12 := ⟨_, rfl⟩
  have oO2 : Opn (clean D11).1 (D12, 0) [[97, 108, 108]] 0 44 1 := by rw [← hD11, ← hD12]; exact su_open11 _
  have EQ := Lib.hid (And.intro eAp (And.intro eSy (And.intro eRw (And.intro eCl (And.intro eC2 (And.intro eO2 oO2))))))
  clear i4 s4 i6 s6 i11 s11 c4 c6 c11 hD6 hD11 hD12 eAp eSy eRw eCl eC2 eO1 eO2 oO2 hs
  have h3' := Lib.hid h3
  go_enter Tryz.func16, Tryz.ntmps16
  go_wp2_with fail
  refine HNew.out.mono ?_
  rintro e w1 ⟨b, rfl, dw1, b1⟩
  have DW1 := Lib.hid dw1
  have B1 := Lib.hid b1
  clear dw1 b1
  go_wp2_with fail
  refine (open_any DW1.out Dk.Inv.new Dk.Small.new (by decide) (by decide) (by rw [su_clean0]) su_open0 rfl).mono ?_
  rintro e w2 he
  obtain ⟨l, bv, base, P2, rfl, lw2, k2, b2, tx2, -, hl2⟩ := he.belowOf (B := w.heap.size) (fun k hk => hk) B1.out.size
  obtain ⟨ao, cp, rfl⟩ : ∃ ao cp, bv = .slice ao 0 cp := by
    rcases tx2.2 with ⟨h1, h2⟩ | ⟨g, cap, cur, h1, _⟩
    · exact ⟨none, 0, h1⟩
    · exact ⟨_, _, h1⟩
  have B2 := Lib.hid (B1.out.trans b2)
  have LW2 := Lib.hid lw2
  clear b2 lw2 tx2 he
  have HSt := Lib.hid (fun (P : Nat → Prop) l W (h : LW P W l b a (su4 (headT 1)) suA) => (show Calls Tryz.prog 29 #[.pointer (some ⟨b, 0, none⟩)] W fun e w' => e = .returned (.int .i64 4) ∧ W = w' from h.stepsC))
  have HAp := Lib.hid (fun (P : Nat → Prop) l W (h : LW P W l b a (su4 (headT 1)) suA) => (show Calls Tryz.prog 8 #[.pointer (some ⟨l, 0, none⟩), .string (str [97, 98])] W fun e w' => e = .returned (.tuple #[.int .u64 1, .int .i64 0]) ∧ LgEnd P W l b a D6 suB w' from by
    have := logAppend_any h H4.out.1 H4.out.2.1 (by decide) ⟨by decide, by decide, by decide, by decide, by decide, by decide⟩ [97, 98] (by decide) (.inr H4.out.2.2)
    rw [EQ.out.1] at this
    exact this))
  have HSy := Lib.hid (fun (P : Nat → Prop) l W (h : LW P W l b a D6 suB) => (show Calls Tryz.prog 9 #[.pointer (some ⟨l, 0, none⟩)] W fun e w' => e = .returned (.int .i64 0) ∧ LgEnd P W l b a D6 suB w' from by
    have := logSyn_any h H6.out.1 H6.out.2.1 (by decide) (.inr H6.out.2.2)
    rw [EQ.out.2.1] at this
    exact this))
  have HRw := Lib.hid (fun (P : Nat → Prop) l W (h : LW P W l b a D6 suB) => (show Calls Tryz.prog 10 #[.pointer (some ⟨l, 0, none⟩), .string (str [97, 108, 108])] W fun e w' => e = .returned (.int .i64 0) ∧ LgEnd P W l b a D11 suC w' from by
    have := logRewrite_any h H6.out.1 H6.out.2.1 (by decide) ⟨by decide, by decide, by decide, by decide, by decide, by decide⟩ [97, 108, 108] (by decide) (.inr (by rw [EQ.out.2.2.1]))
    rw [EQ.out.2.2.1] at this
    exact this))
  have HC1 := Lib.hid (fun (P : Nat → Prop) l W (h : LW P W l b a D11 suC) => (show Calls Tryz.prog 11 #[.pointer (some ⟨l, 0, none⟩)] W fun e w' => e = .returned (.int .i64 0) ∧ LgEnd P W l b a D11 suD w' from by
    have := logClose_any h H11.out.1 H11.out.2.1 (by decide) (.inr H11.out.2.2)
    rw [EQ.out.2.2.2.1] at this
    exact this))
  have HC2 := Lib.hid (fun (P : Nat → Prop) l W (h : LW P W l b a D11 suD) => (show Calls Tryz.prog 11 #[.pointer (some ⟨l, 0, none⟩)] W fun e w' => e = .returned (.int .i64 262) ∧ LgEnd P W l b a D11 suD w' from by
    have := logClose_any h H11.out.1 H11.out.2.1 (by decide) (.inr H11.out.2.2)
    rw [EQ.out.2.2.2.2.1] at this
    exact this))
  have HLa := Lib.hid (fun (l : Nat) W (h : LogAt W l b suB) => (show Calls Tryz.prog 13 #[.pointer (some ⟨l, 0, none⟩)] W fun e w' => e = .returned (.int .u64 1) ∧ w' = W from last_is h))
  have HLg := Lib.hid (fun (l : Nat) W (h : LogAt W l b suB) => (show Calls Tryz.prog 14 #[.pointer (some ⟨l, 0, none⟩)] W fun e w' => e = .returned (.int .u64 1) ∧ w' = W from lasting_is h))
  have HSz := Lib.hid (fun (l : Nat) W (h : LogAt W l b suB) => (show Calls Tryz.prog 15 #[.pointer (some ⟨l, 0, none⟩)] W fun e w' => e = .returned (.int .i64 43) ∧ w' = W from size_is h))
  have HS2 := Lib.hid (fun (l : Nat) W (h : LogAt W l b suC) => (show Calls Tryz.prog 15 #[.pointer (some ⟨l, 0, none⟩)] W fun e w' => e = .returned (.int .i64 44) ∧ w' = W from size_is h))
  have HBr := Lib.hid (fun (l : Nat) W (h : LogAt W l b suC) => (show Calls Tryz.prog 12 #[.pointer (some ⟨l, 0, none⟩)] W fun e w' => e = .returned (.bool false) ∧ w' = W from broken_is h))
  go_wp2_with fail
  refine (HSt.out _ _ _ (LW2.out.below ((Below.refl _ _).alloc (Nat.le_refl _) _))).mono ?_
  rintro e w3 ⟨rfl, rfl⟩
  go_wp2_with fail
  refine (HAp.out _ _ _ (LW2.out.below ((Below.refl _ _).alloc (Nat.le_refl _) _))).mono ?_
  rintro e w3 ⟨rfl, le3⟩
  obtain ⟨P3, lw3, k3, b3⟩ := le3.belowOf (B := w.heap.size) k2 hl2 (by have := B2.out.size; simp; omega)
  have B3 := Lib.hid ((B2.out.alloc B2.out.size _).trans b3)
  have LW3 := Lib.hid lw3
  clear le3 lw3 b3
  go_wp2_with fail
  refine (HLa.out _ _ LW3.out.log).mono ?_
  rintro e w4 ⟨rfl, rfl⟩
  go_wp2_with fail
  refine (HLg.out _ _ LW3.out.log).mono ?_
  rintro e w4 ⟨rfl, rfl⟩
  go_wp2_with fail
  refine (HSz.out _ _ LW3.out.log).mono ?_
  rintro e w4 ⟨rfl, rfl⟩
  go_wp2_with fail
  refine (HSy.out _ _ _ LW3.out).mono ?_
  rintro e w5 ⟨rfl, le5⟩
  obtain ⟨P5, lw5, k5, b5⟩ := le5.belowOf (B := w.heap.size) k3 hl2 B3.out.size
  have B5 := Lib.hid (B3.out.trans b5)
  have LW5 := Lib.hid lw5
  clear le5 lw5 b5
  go_wp2_with fail
  refine (HRw.out _ _ _ LW5.out).mono ?_
  rintro e w6 ⟨rfl, le6⟩
  obtain ⟨P6, lw6, k6, b6⟩ := le6.belowOf (B := w.heap.size) k5 hl2 B5.out.size
  have B6 := Lib.hid (B5.out.trans b6)
  have LW6 := Lib.hid lw6
  clear le6 lw6 b6
  go_wp2_with fail
  refine (HS2.out _ _ LW6.out.log).mono ?_
  rintro e w7 ⟨rfl, rfl⟩
  go_wp2_with fail
  refine (HBr.out _ _ LW6.out.log).mono ?_
  rintro e w7 ⟨rfl, rfl⟩
  go_wp2_with fail
  refine (HC1.out _ _ _ LW6.out).mono ?_
  rintro e w7 ⟨rfl, le7⟩
  obtain ⟨P7, lw7, k7, b7⟩ := le7.belowOf (B := w.heap.size) k6 hl2 B6.out.size
  have B7 := Lib.hid (B6.out.trans b7)
  have LW7 := Lib.hid lw7
  clear le7 lw7 b7
  go_wp2_with fail
  refine (HC2.out _ _ _ LW7.out).mono ?_
  rintro e w8 ⟨rfl, le8⟩
  obtain ⟨P8, lw8, k8, b8⟩ := le8.belowOf (B := w.heap.size) k7 hl2 B7.out.size
  have B8 := Lib.hid (B7.out.trans b8)
  have LW8 := Lib.hid lw8
  clear le8 lw8 b8
  go_wp2_with fail
  refine (open_any LW8.out.dw H11.out.1 H11.out.2.1 (by decide) (by decide) EQ.out.2.2.2.2.2.1 EQ.out.2.2.2.2.2.2 rfl).mono ?_
  rintro e w9 he
  obtain ⟨l9, bv9, base9, P9, rfl, lw9, k9, b9, tx9, hb9, hl9⟩ := he.belowOf (B := w.heap.size) k8 B8.out.size
  obtain ⟨g, cp9, rfl, hg9, hc9⟩ := tx9.first
  have B9 := Lib.hid (B8.out.trans b9)
  have hgl : g < w9.heap.size := by
    have := hc9
    unfold World.cell? at this
    rcases hq : w9.heap[g]? with _ | o
    · rw [hq] at this; simp at this
    · exact (Array.getElem?_eq_some_iff.1 hq).1
  have HC9 := Lib.hid hc9
  clear he lw9 b9 tx9 hc9
  go_wp2_with fail
  refine (open_bad (by decide) _ _).mono ?_
  rintro e wa ⟨rfl, ba⟩
  have BA := Lib.hid (((B9.out.alloc B9.out.size _).trans (ba.mono (by have := B9.out.size; simp; omega))).alloc (by have := B9.out.size; have := ba.size; simp at this; omega) (.cells #[.int .i64 0, .int .i64 0, .int .i64 0, .int .u64 0] 26))
  have hba := ba.size
  have c0 : (wa.alloc (.cells #[.int .i64 0, .int .i64 0, .int .i64 0, .int .u64 0] 26)).cell? ⟨g, 0, none⟩ = some (.string ⟨#[97, 108, 108]⟩) :=
    (World.cell?_alloc_past _ _ _ (show g < wa.heap.size by simp at hba; omega)).trans ((World.cell?_of_block (ba.block g (by simp; omega))).trans ((World.cell?_alloc_past _ _ _ hgl).trans HC9.out))
  have c3 : (wa.alloc (.cells #[.int .i64 0, .int .i64 0, .int .i64 0, .int .u64 0] 26)).cell? ⟨w9.heap.size, 3, none⟩ = some (.int .u64 1) :=
    (World.cell?_alloc_past _ _ _ (show w9.heap.size < wa.heap.size by simp at hba; omega)).trans ((World.cell?_of_block (ba.block w9.heap.size (by simp))).trans (World.cell?_alloc_at _ _ _ 3 rfl))
  clear ba hba
  go_wp2
  go_ret
  exact ⟨rfl, BA.out⟩
end Go.Proofs.YtfbjmhipjfjaeaaGreatDoor
