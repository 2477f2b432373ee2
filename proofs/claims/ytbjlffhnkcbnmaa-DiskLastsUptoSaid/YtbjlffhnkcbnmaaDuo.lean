/- The program's disk beside the document's. -/
import Derived.Test.YtbjlffhnkcbnmaaRef12
import Derived.Test.YtbjlffhnkcbnmaaDsk14
namespace Go.Proofs.Ytbjlffhnkcbnmaa
open Go.ChangeShapes Go.WideShapes Go.ChangeAt Go.RowKit Go.Maps Pl
set_option linter.unusedVariables false

/-- Both disks, in blocks of P. -/
def Two (P : Nat → Prop) (w : World) (b c : Nat) (S T : Dk) : Prop := ∃ F G, Dsk w b F S ∧ RDisk w c G T ∧ (∀ k, F k → ¬ G k) ∧ (∀ k, F k ∨ G k → P k)
theorem Dsk.lt {w : World} {b : Nat} {F : Nat → Prop} {S : Dk} (h : Dsk w b F S) : ∀ k, F k → k < w.heap.size := by
  obtain ⟨φ, nm, lm, ov, pv, d⟩ := h; exact d.lt
theorem RDisk.lt {w : World} {b : Nat} {F : Nat → Prop} {S : Dk} (h : RDisk w b F S) : ∀ k, F k → k < w.heap.size := by
  obtain ⟨fv, nv, lv, ov, pv, d⟩ := h; exact d.lt
theorem Dsk.kept {w w' : World} {b : Nat} {F G : Nat → Prop} {S : Dk} (h : Dsk w b F S) (hw : Wr G w w') (hFG : ∀ k, F k → ¬ G k) : Dsk w' b F S := by
  obtain ⟨φ, nm, lm, ov, pv, d⟩ := h; exact ⟨φ, nm, lm, ov, pv, d.kept hw hFG⟩
theorem RDisk.kept {w w' : World} {b : Nat} {F G : Nat → Prop} {S : Dk} (h : RDisk w b F S) (hw : Wr G w w') (hFG : ∀ k, F k → ¬ G k) : RDisk w' b F S := by
  obtain ⟨fv, nv, lv, ov, pv, d⟩ := h; exact ⟨fv, nv, lv, ov, pv, d.kept hw hFG⟩
def TwoEnd (P : Nat → Prop) (b c : Nat) (S T : Dk) (v : Value) (w : World) (e : Ending) (w' : World) : Prop := e = .returned v ∧ Two (fun k => P k ∨ w.heap.size ≤ k) w' b c S T ∧ Wr P w w'
namespace Two
variable {P Q K : Nat → Prop} {w w' : World} {b c : Nat} {S S' T T' : Dk}
theorem mono (h : Two P w b c S T) (hPQ : ∀ k, P k → Q k) : Two Q w b c S T := by
  obtain ⟨F, G, d, r, hd, hp⟩ := h; exact ⟨F, G, d, r, hd, fun k hk => hPQ k (hp k hk)⟩
theorem kept (h : Two P w b c S T) (hw : Wr K w w') (hPK : ∀ k, P k → ¬ K k) : Two P w' b c S T := by
  obtain ⟨F, G, d, r, hd, hp⟩ := h
  exact ⟨F, G, d.kept hw fun k hk => hPK k (hp k (.inl hk)), r.kept hw fun k hk => hPK k (hp k (.inr hk)), hd, hp⟩
theorem below (h : Two P w b c S T) (hw : Below w.heap.size w w') : Two P w' b c S T := h.kept (K := fun _ => False) (Wr.of_below hw) (fun _ _ h => h)
/-- Its blocks are there. -/
theorem bounded (h : Two P w b c S T) : Two (fun k => P k ∧ k < w.heap.size) w b c S T := by
  obtain ⟨F, G, d, r, hd, hp⟩ := h
  exact ⟨F, G, d, r, hd, fun k hk => ⟨hp k hk, hk.elim (d.lt k) (r.lt k)⟩⟩
theorem p {v : Value} {f : FuncId} {args : Array Value} (h : Two P w b c S T) (hc : ∀ F, (∀ k, F k → P k) → Dsk w b F S → Calls Try.prog f args w (OpEnd b F S' v w)) : Calls Try.prog f args w (TwoEnd P b c S' T v w) := by
  obtain ⟨F, G, d, r, hd, hp⟩ := h
  refine (hc F (fun k hk => hp k (.inl hk)) d).mono fun e w' he => ?_
  obtain ⟨he, F', d', g, hw⟩ := he
  refine ⟨he, ⟨F', G, d', r.kept hw fun k hg hf => hd k hf hg, fun k hk hg => (g k hk).elim (fun h => hd k h hg) (fun h => by have := r.lt k hg; omega), fun k hk => ?_⟩, hw.mono fun k hk _ => hp k (.inl hk)⟩
  rcases hk with hk | hk
  · exact (g k hk).imp (fun h => hp k (.inl h)) id
  · exact .inl (hp k (.inr hk))
theorem r {v : Value} {f : FuncId} {args : Array Value} (h : Two P w b c S T) (hc : ∀ G, (∀ k, G k → P k) → RDisk w c G T → Calls Try.prog f args w (ROpEnd c G T' v w)) : Calls Try.prog f args w (TwoEnd P b c S T' v w) := by
  obtain ⟨F, G, d, r, hd, hp⟩ := h
  refine (hc G (fun k hk => hp k (.inr hk)) r).mono fun e w' he => ?_
  obtain ⟨he, G', r', g, hw⟩ := he
  refine ⟨he, ⟨F, G', d.kept hw fun k hf hg => hd k hf hg, r', fun k hk hg => (g k hg).elim (fun h => hd k hk h) (fun h => by have := d.lt k hk; omega), fun k hk => ?_⟩, hw.mono fun k hk _ => hp k (.inr hk)⟩
  rcases hk with hk | hk
  · exact .inl (hp k (.inl hk))
  · exact (g k hk).imp (fun h => hp k (.inr h)) id
end Two
/-- Both disks, in a call's own memory since w1. -/
def Duo (H : Nat → Prop) (w1 w : World) (b c : Nat) (S T : Dk) : Prop := Two (fun k => H k ∨ w1.heap.size ≤ k) w b c S T ∧ Wr H w1 w
def DuoEnd (H : Nat → Prop) (w1 : World) (b c : Nat) (S T : Dk) (v : Value) (e : Ending) (w' : World) : Prop := e = .returned v ∧ Duo H w1 w' b c S T
namespace Duo
variable {H : Nat → Prop} {w1 w w' : World} {b c j : Nat} {S S' T T' : Dk}
theorem of (h : Duo H w1 w b c S T) {e : Ending} {v : Value} (he : TwoEnd (fun k => H k ∨ w1.heap.size ≤ k) b c S' T' v w e w') : DuoEnd H w1 b c S' T' v e w' :=
  ⟨he.1, he.2.1.mono fun k hk => hk.elim id fun hk => .inr (Nat.le_trans h.2.size hk), h.2.trans he.2.2 fun k hk => hk⟩
theorem below (h : Duo H w1 w b c S T) (hw : Below w.heap.size w w') : Duo H w1 w' b c S T := ⟨h.1.below hw, h.2.trans (Wr.of_below hw) (Grew.refl _ _)⟩
theorem drew (h : Duo H w1 w b c S T) : Duo H w1 w.drew b c S T := h.below (Below.refl _ _).drew
theorem drewN (h : Duo H w1 w b c S T) (n : Nat) : Duo H w1 (w.drewN n) b c S T := h.below (below_drewN (Below.refl _ _) n)
theorem alloc (h : Duo H w1 w b c S T) (o : Obj) : Duo H w1 (w.alloc o) b c S T := h.below ((Below.refl _ _).alloc (Nat.le_refl _) _)
/-- From here on. -/
theorem at_ (h : Duo H w1 w b c S T) : ∃ H', Two H' w b c S T ∧ (∀ k, H' k → (H k ∨ w1.heap.size ≤ k) ∧ k < w.heap.size) :=
  ⟨fun k => (H k ∨ w1.heap.size ≤ k) ∧ k < w.heap.size, h.1.bounded, fun k hk => hk⟩
theorem start {H' : Nat → Prop} (h : Two H' w b c S T) : Duo H' w w b c S T := ⟨h.mono fun k hk => .inl hk, Wr.refl _ _⟩
theorem back {H' : Nat → Prop} {w2 : World} (h : Duo H w1 w b c S T) (hw : Below w.heap.size w w2) (h' : Duo H' w2 w' b c S' T') (hH : ∀ k, H' k → H k ∨ w1.heap.size ≤ k) : Duo H w1 w' b c S' T' :=
  ⟨h'.1.mono fun k hk => hk.elim (hH k) fun hk => .inr (Nat.le_trans (Nat.le_trans h.2.size hw.size) hk), (h.2.trans (Wr.of_below hw) (Grew.refl _ _)).trans h'.2 fun k hk => hH k hk⟩
theorem create (h : Duo H w1 w b c S T) (hI : S.Inv) (hS : S.Small j) (hj : j ≤ 4194300) (n : Tx) (hn : n.length ≤ 1048576) :
    Calls Try.prog 26 #[.pointer (some ⟨b, 0, none⟩), .string (str n)] w (DuoEnd H w1 b c (S.createS n) T (.int .i64 (S.createE n))) :=
  (h.1.p fun F _ d => create_any d hI hS (by omega) n hn).mono fun e w' he => h.of he
theorem append (h : Duo H w1 w b c S T) (hI : S.Inv) (hS : S.Small j) (hj : j ≤ 4194300) (n s : Tx) (hn : n.length ≤ 1048576) (hs : s.length ≤ 1048576) :
    Calls Try.prog 16 #[.pointer (some ⟨b, 0, none⟩), .string (str n), .string (str s)] w (DuoEnd H w1 b c (S.appendS n s) T (.tuple #[.int .i64 (S.appendN n s), .int .i64 (S.appendE n)])) :=
  (h.1.p fun F _ d => append_any d hI hS (by omega) n s hn hs).mono fun e w' he => h.of he
theorem trunc (h : Duo H w1 w b c S T) (hI : S.Inv) (hS : S.Small j) (hj : j ≤ 4194300) (n : Tx) (k : Int) (hn : n.length ≤ 1048576) :
    Calls Try.prog 29 #[.pointer (some ⟨b, 0, none⟩), .string (str n), .int .i64 k] w (DuoEnd H w1 b c (S.truncS n k) T (.int .i64 (S.appendE n))) :=
  (h.1.p fun F _ d => truncate_any d hI hS (by omega) n k hn).mono fun e w' he => h.of he
theorem sync (h : Duo H w1 w b c S T) (hI : S.Inv) (hS : S.Small j) (hj : j ≤ 4194300) (n : Tx) (hn : n.length ≤ 1048576) :
    Calls Try.prog 17 #[.pointer (some ⟨b, 0, none⟩), .string (str n)] w (DuoEnd H w1 b c (S.syncS n) T (.int .i64 (S.appendE n))) :=
  (h.1.p fun F _ d => sync_any d hI hS (by omega) n hn).mono fun e w' he => h.of he
theorem rename (h : Duo H w1 w b c S T) (hI : S.Inv) (hS : S.Small j) (hj : j ≤ 4194300) (n m : Tx) (hn : n.length ≤ 1048576) (hm : m.length ≤ 1048576) :
    Calls Try.prog 30 #[.pointer (some ⟨b, 0, none⟩), .string (str n), .string (str m)] w (DuoEnd H w1 b c (S.renameS n m) T (.int .i64 (S.renameE n m))) :=
  (h.1.p fun F _ d => rename_any d hI hS (by omega) n m hn hm).mono fun e w' he => h.of he
theorem remove (h : Duo H w1 w b c S T) (hI : S.Inv) (hS : S.Small j) (hj : j ≤ 4194300) (n : Tx) (hn : n.length ≤ 1048576) :
    Calls Try.prog 31 #[.pointer (some ⟨b, 0, none⟩), .string (str n)] w (DuoEnd H w1 b c (S.removeS n) T (.int .i64 (S.appendE n))) :=
  (h.1.p fun F _ d => remove_any d hI hS (by omega) n hn).mono fun e w' he => h.of he
theorem syncNames (h : Duo H w1 w b c S T) (hI : S.Inv) (hS : S.Small j) (hj : j ≤ 4194300) :
    Calls Try.prog 27 #[.pointer (some ⟨b, 0, none⟩)] w (DuoEnd H w1 b c S.namesS T (.int .i64 S.namesE)) :=
  (h.1.p fun F _ d => syncNames_any d hI hS (by omega)).mono fun e w' he => h.of he
theorem crash {K : Nat → Prop} (h : Duo H w1 w b c S T) (hI : S.Inv) (hS : S.Small j) (hj : j ≤ 4194300) (k : Int) (v : Value) (bs : List Int) (hv : IRow w K v bs) (hK : ∀ x, K x → ¬ (H x ∨ w1.heap.size ≤ x)) (hbl : bs.length ≤ 4194304) :
    Calls Try.prog 12 #[.pointer (some ⟨b, 0, none⟩), .agg #[.int .i64 k, v]] w (DuoEnd H w1 b c (S.crashS k bs) T (.tuple #[])) :=
  (h.1.p fun F hF d => crash_any d hI hS (by omega) k v bs hv (fun x hx hf => hK x hx (hF x hf)) hbl).mono fun e w' he => h.of he
theorem rcreate (h : Duo H w1 w b c S T) (hI : T.Inv) (hS : T.Small j) (hj : j ≤ 4194300) (n : Tx) :
    Calls Try.prog 38 #[.pointer (some ⟨c, 0, none⟩), .string (str n)] w (DuoEnd H w1 b c S (T.createS n) (.int .i64 (T.createE n))) :=
  (h.1.r fun F _ d => refCreate_any d hI hS hj n).mono fun e w' he => h.of he
theorem rappend (h : Duo H w1 w b c S T) (hI : T.Inv) (hS : T.Small j) (hj : j ≤ 4194300) (n s : Tx) (hs : s.length ≤ 1048576) :
    Calls Try.prog 39 #[.pointer (some ⟨c, 0, none⟩), .string (str n), .string (str s)] w (DuoEnd H w1 b c S (T.appendS n s) (.tuple #[.int .i64 (T.appendN n s), .int .i64 (T.appendE n)])) :=
  (h.1.r fun F _ d => refAppend_any d hI hS (by omega) n s hs).mono fun e w' he => h.of he
theorem rtrunc (h : Duo H w1 w b c S T) (hI : T.Inv) (hS : T.Small j) (hj : j ≤ 4194300) (n : Tx) (k : Int) :
    Calls Try.prog 40 #[.pointer (some ⟨c, 0, none⟩), .string (str n), .int .i64 k] w (DuoEnd H w1 b c S (T.truncS n k) (.int .i64 (T.appendE n))) :=
  (h.1.r fun F _ d => refTruncate_any d hI hS hj n k).mono fun e w' he => h.of he
theorem rsync (h : Duo H w1 w b c S T) (hI : T.Inv) (hS : T.Small j) (hj : j ≤ 4194300) (n : Tx) :
    Calls Try.prog 41 #[.pointer (some ⟨c, 0, none⟩), .string (str n)] w (DuoEnd H w1 b c S (T.syncS n) (.int .i64 (T.appendE n))) :=
  (h.1.r fun F _ d => refSync_any d hI hS (by omega) n).mono fun e w' he => h.of he
theorem rrename (h : Duo H w1 w b c S T) (hI : T.Inv) (hS : T.Small j) (hj : j ≤ 4194300) (n m : Tx) :
    Calls Try.prog 42 #[.pointer (some ⟨c, 0, none⟩), .string (str n), .string (str m)] w (DuoEnd H w1 b c S (T.renameS n m) (.int .i64 (T.renameE n m))) :=
  (h.1.r fun F _ d => refRename_any d hI hS hj n m).mono fun e w' he => h.of he
theorem rremove (h : Duo H w1 w b c S T) (hI : T.Inv) (hS : T.Small j) (hj : j ≤ 4194300) (n : Tx) :
    Calls Try.prog 43 #[.pointer (some ⟨c, 0, none⟩), .string (str n)] w (DuoEnd H w1 b c S (T.removeS n) (.int .i64 (T.appendE n))) :=
  (h.1.r fun F _ d => refRemove_any d hI hS hj n).mono fun e w' he => h.of he
theorem rsyncNames (h : Duo H w1 w b c S T) (hI : T.Inv) (hS : T.Small j) (hj : j ≤ 4194300) :
    Calls Try.prog 44 #[.pointer (some ⟨c, 0, none⟩)] w (DuoEnd H w1 b c S T.namesS (.int .i64 T.namesE)) :=
  (h.1.r fun F _ d => refSyncNames_any d hI hS (by omega)).mono fun e w' he => h.of he
theorem rset {K : Nat → Prop} (h : Duo H w1 w b c S T) (hS : T.Small j) (hj : j ≤ 4194300) (v : Value) (l : List Flt) (hv : QRow w K v l) (hl : l.length ≤ 4194304) :
    Calls Try.prog 23 #[.pointer (some ⟨c, 0, none⟩), v] w (DuoEnd H w1 b c S (T.planS l) (.int .i64 (T.planE l))) :=
  (h.1.r fun F _ d => refSet_any d hS (by omega) v l hv hl).mono fun e w' he => h.of he
theorem rcrash {K : Nat → Prop} (h : Duo H w1 w b c S T) (hI : T.Inv) (hS : T.Small j) (hj : j ≤ 4194300) (k : Int) (v : Value) (bs : List Int) (hv : IRow w K v bs) (hK : ∀ x, K x → ¬ (H x ∨ w1.heap.size ≤ x)) (hbl : bs.length ≤ 4194304) :
    Calls Try.prog 28 #[.pointer (some ⟨c, 0, none⟩), .agg #[.int .i64 k, v]] w (DuoEnd H w1 b c S (T.crashS k bs) (.tuple #[])) :=
  (h.1.r fun F hF d => refCrash_any d hI hS hj k v bs hv (fun x hx hf => hK x hx (hF x hf)) hbl).mono fun e w' he => h.of he
end Duo
end Go.Proofs.Ytbjlffhnkcbnmaa
