/- A disk of a call's own; the disk of a swap. -/
import Derived.Test.YtbjlffhnkcbnmaaDsk11
import Derived.Test.YtbjlffhnkcbnmaaDsk12
import Derived.Test.YtbjlffhnkcbnmaaPlainDisk2
namespace Go.Proofs.Ytbjlffhnkcbnmaa
open Go.ChangeShapes Go.WideShapes Go.ChangeAt Go.RowKit Go.Maps Pl
set_option linter.unusedVariables false

def DiskIn (w0 w : World) (b : Nat) (S : Dk) : Prop := ∃ F, Dsk w b F S ∧ (∀ k, F k → w0.heap.size ≤ k) ∧ Below w0.heap.size w0 w
theorem OpEnd.into {w0 w w' : World} {b : Nat} {F : Nat → Prop} {T : Dk} {v : Value} {e : Ending} (h : OpEnd b F T v w e w') (hF : ∀ k, F k → w0.heap.size ≤ k) (hb : Below w0.heap.size w0 w) : e = .returned v ∧ DiskIn w0 w' b T := by
  obtain ⟨he, F', d, g, r⟩ := h
  exact ⟨he, F', d, fun k hk => (g k hk).elim (hF k) (fun h => Nat.le_trans hb.size h), hb.trans (r.below hF hb.size)⟩
/-- A disk that lies in what a call made. -/
structure Live (w0 w : World) (b j : Nat) (S : Dk) : Prop where
  disk : DiskIn w0 w b S
  inv : S.Inv
  small : S.Small j
def LEnd (w0 : World) (b j : Nat) (T : Dk) (v : Value) (e : Ending) (w' : World) : Prop := e = .returned v ∧ Live w0 w' b j T
namespace Live
variable {w0 w w' : World} {b j : Nat} {S : Dk}
theorem bel (h : Live w0 w b j S) : Below w0.heap.size w0 w := by obtain ⟨F, _, _, hb⟩ := h.disk; exact hb
theorem below (h : Live w0 w b j S) (hb : Below w.heap.size w w') : Live w0 w' b j S := by
  obtain ⟨F, ⟨φ, nm, lm, ov, pv, d⟩, hF, hb0⟩ := h.disk
  exact ⟨⟨F, ⟨φ, nm, lm, ov, pv, d.below hb⟩, hF, hb0.trans (hb.mono hb0.size)⟩, h.inv, h.small⟩
theorem alloc (h : Live w0 w b j S) (o : Obj) : Live w0 (w.alloc o) b j S := h.below ((Below.refl _ _).alloc (Nat.le_refl _) _)
theorem create (h : Live w0 w b j S) (hj : j ≤ 32768) (n : Tx) (hn : n.length ≤ 140737488355328) :
    Calls Try.prog 26 #[.pointer (some ⟨b, 0, none⟩), .string (str n)] w (LEnd w0 b (j + 1) (S.createS n) (.int .i64 (S.createE n))) := by
  obtain ⟨F, d, hF, hb⟩ := h.disk
  exact (create_any d h.inv h.small hj n hn).mono fun e w' he => ⟨(he.into hF hb).1, (he.into hF hb).2, h.inv.create n, h.small.create hn⟩
theorem append (h : Live w0 w b j S) (hj : j ≤ 32768) (n s : Tx) (hn : n.length ≤ 140737488355328) (hs : s.length ≤ 140737488355328) :
    Calls Try.prog 16 #[.pointer (some ⟨b, 0, none⟩), .string (str n), .string (str s)] w (LEnd w0 b (j + 1) (S.appendS n s) (.tuple #[.int .i64 (S.appendN n s), .int .i64 (S.appendE n)])) := by
  obtain ⟨F, d, hF, hb⟩ := h.disk
  exact (append_any d h.inv h.small hj n s hn hs).mono fun e w' he => ⟨(he.into hF hb).1, (he.into hF hb).2, h.inv.append n s, h.small.append n hs⟩
theorem trunc (h : Live w0 w b j S) (hj : j ≤ 32768) (n : Tx) (k : Int) (hn : n.length ≤ 140737488355328) :
    Calls Try.prog 29 #[.pointer (some ⟨b, 0, none⟩), .string (str n), .int .i64 k] w (LEnd w0 b (j + 1) (S.truncS n k) (.int .i64 (S.appendE n))) := by
  obtain ⟨F, d, hF, hb⟩ := h.disk
  exact (truncate_any d h.inv h.small hj n k hn).mono fun e w' he => ⟨(he.into hF hb).1, (he.into hF hb).2, h.inv.trunc n k, h.small.trunc n k⟩
theorem sync (h : Live w0 w b j S) (hj : j ≤ 32768) (n : Tx) (hn : n.length ≤ 140737488355328) :
    Calls Try.prog 17 #[.pointer (some ⟨b, 0, none⟩), .string (str n)] w (LEnd w0 b (j + 1) (S.syncS n) (.int .i64 (S.appendE n))) := by
  obtain ⟨F, d, hF, hb⟩ := h.disk
  exact (sync_any d h.inv h.small hj n hn).mono fun e w' he => ⟨(he.into hF hb).1, (he.into hF hb).2, h.inv.syn n, h.small.syn n⟩
theorem rename (h : Live w0 w b j S) (hj : j ≤ 32768) (n m : Tx) (hn : n.length ≤ 140737488355328) (hm : m.length ≤ 140737488355328) :
    Calls Try.prog 30 #[.pointer (some ⟨b, 0, none⟩), .string (str n), .string (str m)] w (LEnd w0 b (j + 1) (S.renameS n m) (.int .i64 (S.renameE n m))) := by
  obtain ⟨F, d, hF, hb⟩ := h.disk
  exact (rename_any d h.inv h.small hj n m hn hm).mono fun e w' he => ⟨(he.into hF hb).1, (he.into hF hb).2, h.inv.rename n m, h.small.rename hn hm⟩
theorem remove (h : Live w0 w b j S) (hj : j ≤ 32768) (n : Tx) (hn : n.length ≤ 140737488355328) :
    Calls Try.prog 31 #[.pointer (some ⟨b, 0, none⟩), .string (str n)] w (LEnd w0 b (j + 1) (S.removeS n) (.int .i64 (S.appendE n))) := by
  obtain ⟨F, d, hF, hb⟩ := h.disk
  exact (remove_any d h.inv h.small hj n hn).mono fun e w' he => ⟨(he.into hF hb).1, (he.into hF hb).2, h.inv.remove n, h.small.remove hn⟩
theorem syncNames (h : Live w0 w b j S) (hj : j ≤ 32768) :
    Calls Try.prog 27 #[.pointer (some ⟨b, 0, none⟩)] w (LEnd w0 b (j + 1) S.namesS (.int .i64 S.namesE)) := by
  obtain ⟨F, d, hF, hb⟩ := h.disk
  exact (syncNames_any d h.inv h.small hj).mono fun e w' he => ⟨(he.into hF hb).1, (he.into hF hb).2, h.inv.syncNames, h.small.syncNames⟩
theorem plan {G : Nat → Prop} (h : Live w0 w b j S) (hj : j ≤ 32768) (v : Value) (l : List Flt) (hv : PRow w G v l) (hl : l.length ≤ 32768) :
    Calls Try.prog 22 #[.pointer (some ⟨b, 0, none⟩), v] w (LEnd w0 b j (S.planS l) (.int .i64 (S.planE l))) := by
  obtain ⟨F, d, hF, hb⟩ := h.disk
  exact (plan_any d h.small hj v l hv hl).mono fun e w' he => ⟨(he.into hF hb).1, (he.into hF hb).2, h.inv.set l, h.small.set l⟩
theorem crash (h : Live w0 w b j S) (hj : j ≤ 32768) (k : Int) (v : Value) (bs : List Int) (hv : IRow w (fun g => g < w0.heap.size) v bs) (hbl : bs.length ≤ 17592186044416) :
    Calls Try.prog 12 #[.pointer (some ⟨b, 0, none⟩), .agg #[.int .i64 k, v]] w (LEnd w0 b j (S.crashS k bs) (.tuple #[])) := by
  obtain ⟨F, d, hF, hb⟩ := h.disk
  exact (crash_any d h.inv h.small hj k v bs hv (fun x hx hf => by have := hF x hf; omega) hbl).mono fun e w' he => ⟨(he.into hF hb).1, (he.into hF hb).2, h.inv.crash k bs, h.small.crash k bs⟩
theorem read (h : Live w0 w b j S) (n : Tx) (hn : n.length ≤ 140737488355328) :
    Calls Try.prog 14 #[.pointer (some ⟨b, 0, none⟩), .string (str n)] w (ReadEnd S n w) := by
  obtain ⟨F, d, hF, hb⟩ := h.disk
  exact read_any d h.inv n hn
theorem synced (h : Live w0 w b j S) (n : Tx) (hn : n.length ≤ 140737488355328) :
    Calls Try.prog 15 #[.pointer (some ⟨b, 0, none⟩), .string (str n)] w (SyncedEnd S n w) := by
  obtain ⟨F, d, hF, hb⟩ := h.disk
  exact synced_any d h.inv n hn
theorem names (h : Live w0 w b j S) (hj : j ≤ 32768) :
    Calls Try.prog 13 #[.pointer (some ⟨b, 0, none⟩)] w (ToldEnd (if S.down = true then [] else S.names) w) := by
  obtain ⟨F, d, hF, hb⟩ := h.disk
  exact names_any d h.inv h.small hj
theorem lasting (h : Live w0 w b j S) (hj : j ≤ 32768) :
    Calls Try.prog 19 #[.pointer (some ⟨b, 0, none⟩)] w (ToldEnd (if S.down = true then [] else S.last) w) := by
  obtain ⟨F, d, hF, hb⟩ := h.disk
  exact lasting_any d h.inv h.small hj
theorem steps (h : Live w0 w b j S) :
    Calls Try.prog 25 #[.pointer (some ⟨b, 0, none⟩)] w fun e w' => e = .returned (.int .i64 S.steps) ∧ w = w' := by
  obtain ⟨F, d, hF, hb⟩ := h.disk
  exact steps_any d
theorem down (h : Live w0 w b j S) :
    Calls Try.prog 24 #[.pointer (some ⟨b, 0, none⟩)] w fun e w' => e = .returned (.bool S.down) ∧ w = w' := by
  obtain ⟨F, d, hF, hb⟩ := h.disk
  exact down_any d
end Live
theorem new_live {w0 w : World} (h : Below w0.heap.size w0 w) : Calls Try.prog 9 #[] w fun e w' => ∃ b, e = .returned (.pointer (some ⟨b, 0, none⟩)) ∧ Live w0 w' b 0 Dk.new ∧ Below w.heap.size w w' :=
  (new_any w).mono fun e w' ⟨b, F, he, d, hF, hb⟩ => ⟨b, he, ⟨⟨F, d, fun k hk => by have := hF k hk; have := h.size; omega, h.trans (hb.mono h.size)⟩, Dk.Inv.new, Dk.Small.new⟩, hb⟩

namespace Pl
/-- The disk of a swap, step by step. -/
def nA : Tx := [97]
def nB : Tx := [98]
def sw1 : Dk := ⟨[⟨[], 0⟩], [(nA, 0)], [], [⟨1, nA, [], 0⟩], [], 1, false⟩
def sw2 (o : Tx) : Dk := ⟨[⟨o, 0⟩], [(nA, 0)], [], [⟨1, nA, [], 0⟩], [], 2, false⟩
def sw3 (o : Tx) : Dk := ⟨[⟨o, o.length⟩], [(nA, 0)], [], [⟨1, nA, [], 0⟩], [], 3, false⟩
def sw4 (o : Tx) : Dk := ⟨[⟨o, o.length⟩], [(nA, 0)], [(nA, 0)], [], [], 4, false⟩
def sw5 (o : Tx) : Dk := ⟨[⟨o, o.length⟩, ⟨[], 0⟩], [(nA, 0), (nB, 1)], [(nA, 0)], [⟨1, nB, [], 1⟩], [], 5, false⟩
def sw6 (o f : Tx) : Dk := ⟨[⟨o, o.length⟩, ⟨f, 0⟩], [(nA, 0), (nB, 1)], [(nA, 0)], [⟨1, nB, [], 1⟩], [], 6, false⟩
def sw7 (o f : Tx) : Dk := ⟨[⟨o, o.length⟩, ⟨f, f.length⟩], [(nA, 0), (nB, 1)], [(nA, 0)], [⟨1, nB, [], 1⟩], [], 7, false⟩
def sw8 (o f : Tx) : Dk := ⟨[⟨o, o.length⟩, ⟨f, f.length⟩], [(nA, 1)], [(nA, 0)], [⟨1, nB, [], 1⟩, ⟨2, nB, nA, 1⟩], [], 8, false⟩
def sw9 (o f : Tx) : Dk := ⟨[⟨o, o.length⟩, ⟨f, f.length⟩], [(nA, 1)], [(nA, 1)], [], [], 9, false⟩
theorem sw_ab : nA ≠ nB := by decide
theorem sw_1 : Dk.new.createS nA = sw1 ∧ Dk.new.createE nA = 0 := ⟨rfl, rfl⟩
theorem sw_2 (o : Tx) : sw1.appendS nA o = sw2 o ∧ sw1.appendN nA o = o.length ∧ sw1.appendE nA = 0 := ⟨by
  show (⟨[⟨[] ++ o.take o.length, 0⟩], [(nA, 0)], [], [⟨1, nA, [], 0⟩], [], 2, false⟩ : Dk) = _
  rw [List.take_length, List.nil_append]; rfl, rfl, rfl⟩
theorem sw_3 (o : Tx) : (sw2 o).syncS nA = sw3 o ∧ (sw2 o).appendE nA = 0 := ⟨rfl, rfl⟩
theorem sw_4 (o : Tx) : (sw3 o).namesS = sw4 o ∧ (sw3 o).namesE = 0 := ⟨rfl, rfl⟩
theorem sw_5 (o : Tx) : (sw4 o).createS nB = sw5 o ∧ (sw4 o).createE nB = 0 := ⟨rfl, rfl⟩
theorem sw_6 (o f : Tx) : (sw5 o).appendS nB f = sw6 o f ∧ (sw5 o).appendN nB f = f.length ∧ (sw5 o).appendE nB = 0 := ⟨by
  show (⟨[⟨o, o.length⟩, ⟨[] ++ f.take f.length, 0⟩], [(nA, 0), (nB, 1)], [(nA, 0)], [⟨1, nB, [], 1⟩], [], 6, false⟩ : Dk) = _
  rw [List.take_length, List.nil_append]; rfl, rfl, rfl⟩
theorem sw_7 (o f : Tx) : (sw6 o f).syncS nB = sw7 o f ∧ (sw6 o f).appendE nB = 0 := ⟨rfl, rfl⟩
theorem sw_8 (o f : Tx) : (sw7 o f).renameS nB nA = sw8 o f ∧ (sw7 o f).renameE nB nA = 0 := ⟨rfl, rfl⟩
theorem sw_9 (o f : Tx) : (sw8 o f).namesS = sw9 o f ∧ (sw8 o f).namesE = 0 := ⟨rfl, rfl⟩
theorem sw_r8 (o f : Tx) : (sw8 o f).readT nA = f ∧ (sw8 o f).askE nA = 0 := ⟨rfl, rfl⟩
theorem sw_r9 (o f : Tx) : (sw9 o f).readT nA = f ∧ (sw9 o f).askE nA = 0 := ⟨rfl, rfl⟩
theorem cut_all (bs : List Int) (i : Nat) (t : Tx) : cut bs i ⟨t, t.length⟩ = ⟨t, t.length⟩ := by
  unfold cut more
  simp only [Nat.sub_self, Nat.min_zero, Nat.add_zero, List.take_length]
theorem sw_crash (o f : Tx) (k : Int) (bs : List Int) (hk : 2 ≤ k) : (sw8 o f).crashS k bs = ⟨[⟨o, o.length⟩, ⟨f, f.length⟩], [(nA, 1)], [(nA, 1)], [], [], 8, false⟩ := by
  obtain ⟨n, hn⟩ : ∃ n, k.toNat = n + 2 := ⟨k.toNat - 2, by omega⟩
  have h1 : (sw8 o f).left k = [(nA, 1)] := by unfold Dk.left; rw [hn, List.take_of_length_le (show (sw8 o f).opn.length ≤ n + 2 from Nat.le_add_left 2 n)]; rfl
  unfold Dk.crashS
  rw [h1]
  show (⟨[⟨o, o.length⟩, cut bs 0 ⟨f, f.length⟩], _, _, _, _, _, _⟩ : Dk) = _
  rw [cut_all]; rfl
theorem sw_crash9 (o f : Tx) (k : Int) (bs : List Int) : (sw9 o f).crashS k bs = ⟨[⟨o, o.length⟩, ⟨f, f.length⟩], [(nA, 1)], [(nA, 1)], [], [], 9, false⟩ := by
  have h1 : (sw9 o f).left k = [(nA, 1)] := by unfold Dk.left; rw [show (sw9 o f).opn.take k.toNat = [] from List.take_nil]; rfl
  unfold Dk.crashS
  rw [h1]
  show (⟨[⟨o, o.length⟩, cut bs 0 ⟨f, f.length⟩], _, _, _, _, _, _⟩ : Dk) = _
  rw [cut_all]; rfl
theorem sw_crash1 (o f : Tx) (bs : List Int) : (sw8 o f).crashS 1 bs = ⟨[⟨o, o.length⟩, ⟨f, f.length⟩], [(nA, 0), (nB, 1)], [(nA, 0), (nB, 1)], [], [], 8, false⟩ := by
  have h1 : (sw8 o f).left 1 = [(nA, 0), (nB, 1)] := rfl
  unfold Dk.crashS
  rw [h1]
  show (⟨[cut bs 0 ⟨o, o.length⟩, cut bs 1 ⟨f, f.length⟩], _, _, _, _, _, _⟩ : Dk) = _
  rw [cut_all, cut_all]; rfl
theorem sw_crash0 (o f : Tx) (k : Int) (bs : List Int) (hk : k ≤ 0) : (sw8 o f).crashS k bs = ⟨[⟨o, o.length⟩, ⟨f, f.length⟩], [(nA, 0)], [(nA, 0)], [], [], 8, false⟩ := by
  have h1 : (sw8 o f).left k = [(nA, 0)] := by unfold Dk.left; rw [show k.toNat = 0 by omega]; rfl
  unfold Dk.crashS
  rw [h1]
  show (⟨[cut bs 0 ⟨o, o.length⟩, ⟨f, f.length⟩], _, _, _, _, _, _⟩ : Dk) = _
  rw [cut_all]; rfl
theorem sw_back (o f : Tx) (k : Int) (bs : List Int) : ((sw8 o f).crashS k bs).askE nA = 0 ∧ ((sw8 o f).crashS k bs).readT nA = if 2 ≤ k then f else o := by
  by_cases h : 2 ≤ k
  · rw [sw_crash o f k bs h, if_pos h]; exact ⟨rfl, rfl⟩
  · rw [if_neg h]
    by_cases h1 : k = 1
    · subst h1; rw [sw_crash1]; exact ⟨rfl, rfl⟩
    · rw [sw_crash0 o f k bs (by omega)]; exact ⟨rfl, rfl⟩
theorem sw_back9 (o f : Tx) (k : Int) (bs : List Int) : ((sw9 o f).crashS k bs).askE nA = 0 ∧ ((sw9 o f).crashS k bs).readT nA = f := by rw [sw_crash9]; exact ⟨rfl, rfl⟩
theorem sw_one (o f : Tx) : ((sw8 o f).crashS 1 []).readT nA = o ∧ ((sw8 o f).crashS 1 []).askE nA = 0 ∧ ((sw8 o f).crashS 1 []).readT nB = f ∧ ((sw8 o f).crashS 1 []).askE nB = 0 ∧ (if ((sw8 o f).crashS 1 []).down = true then [] else ((sw8 o f).crashS 1 []).names).length = 2 := by
  rw [sw_crash1]; exact ⟨rfl, rfl, rfl, rfl, rfl⟩
end Pl
end Go.Proofs.Ytbjlffhnkcbnmaa
