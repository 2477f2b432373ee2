/- aof: the log beside its disk; ready, fails, number. aof: steps in their order; fails; the log and its disk. aof: the log with its disk; sync, Sync. -/
import Derived.Test.YtfbjmhipjfjaeaaGreatDoorM18
namespace Go.Proofs.YtfbjmhipjfjaeaaGreatDoor
open Go.ChangeShapes Go.WideShapes Go.ChangeAt Go.RowKit Go.Maps Pl
set_option linter.unusedVariables false
set_option linter.unusedSimpArgs false
/-- A log, plainly. -/
structure Pl.Lg where
  pol : Int
  every : Int
  last : Nat
  lasting : Nat
  size : Int
  broken : Bool
  shut : Bool
def Pl.Lg.cells (b : Nat) (L : Lg) : Array Value := #[.pointer (some ⟨b, 0, none⟩), .int .i64 L.pol, .int .i64 L.every, .int .u64 L.last, .int .u64 L.lasting, .int .i64 L.size, .bool L.broken, .bool L.shut]
def LogAt (w : World) (l b : Nat) (L : Lg) : Prop := w.heap[l]? = some (.cells (L.cells b) 71 (0, 0))
/-- errBroken lies at a; errors.As's own variable is the type of errors. -/
def Sent (w : World) (a : Addr) : Prop := w.cell? ⟨1, 0, none⟩ = some (.iface 193 (.pointer (some a))) ∧ w.cell? ⟨2, 0, none⟩ = some (.iface 158 (.agg #[.pointer (some ⟨3, 73, none⟩)]))
def Pl.Lg.dead (L : Lg) : Bool := L.broken || L.shut
section
variable {w : World} {l b : Nat} {a : Addr} {L : Lg}
theorem LogAt.cell (h : LogAt w l b L) (i : Nat) : w.cell? ⟨l, i, none⟩ = (L.cells b)[i]? := by
  unfold World.cell?
  rw [show w.heap[l]? = some (.cells (L.cells b) 71 (0, 0)) from h]
  simp
theorem LogAt.free (h : LogAt w l b L) (i : Nat) : w.frozen? ⟨l, i, none⟩ = false := by
  unfold World.frozen?
  rw [show w.heap[l]? = some (.cells (L.cells b) 71 (0, 0)) from h]
  simp
set_option maxRecDepth 100000 in
theorem ready_any (h : LogAt w l b L) (hs : Sent w a) :
    Calls Tryz.prog 46 #[.pointer (some ⟨l, 0, none⟩)] w fun e w' => e = .returned (if L.dead = true then .iface 193 (.pointer (some a)) else .nilIface) ∧ w' = w := by
  have h6 : w.cell? ⟨l, 6, none⟩ = some (.bool L.broken) := h.cell 6
  have h7 : w.cell? ⟨l, 7, none⟩ = some (.bool L.shut) := h.cell 7
  have hs : w.cell? ⟨1, 0, none⟩ = _ := hs.1
  unfold Lg.dead
  clear h
  cases hb : L.broken with
  | true =>
    rw [hb] at h6
    clear hb
    go_enter Tryz.func46, Tryz.ntmps46
    go_wp2
    go_ret
    exact ⟨by simp, rfl⟩
  | false =>
    cases hc : L.shut with
    | true =>
      rw [hb] at h6; rw [hc] at h7
      clear hb hc
      go_enter Tryz.func46, Tryz.ntmps46
      go_wp2
      go_ret
      exact ⟨by simp, rfl⟩
    | false =>
      rw [hb] at h6; rw [hc] at h7
      clear hb hc
      go_enter Tryz.func46, Tryz.ntmps46
      go_wp2
      go_ret
      exact ⟨by simp, rfl⟩
set_option maxRecDepth 100000 in
/-- No error. -/
theorem number_nil (w : World) : Calls Tryz.prog 45 #[.nilIface] w fun e w' => e = .returned (.int .i64 0) ∧ Below w.heap.size w w' := by
  go_enter Tryz.func45, Tryz.ntmps45
  go_wp2
  go_ret
  exact ⟨rfl, (Below.refl _ _).alloc (Nat.le_refl _) _⟩
set_option maxRecDepth 100000 in
/-- The sentinel. -/
theorem number_broken (hs : Sent w a) (h3 : 3 ≤ w.heap.size) : Calls Tryz.prog 45 #[.iface 193 (.pointer (some a))] w fun e w' => e = .returned (.int .i64 262) ∧ Below w.heap.size w w' := by
  have hs : w.cell? ⟨1, 0, none⟩ = _ := hs.1
  have hs2 : (w.alloc (.cells #[.pointer none] 122)).cell? ⟨1, 0, none⟩ = _ := (World.cell?_alloc_past _ _ _ (by omega)).trans hs
  go_enter Tryz.func45, Tryz.ntmps45
  go_wp2_with (go_at_call 76; refine (is_same _ _).mono ?_; rintro e w2 ⟨rfl, rfl⟩)
  go_ret
  exact ⟨rfl, (Below.refl _ _).alloc (Nat.le_refl _) _⟩
end
end Go.Proofs.YtfbjmhipjfjaeaaGreatDoor

namespace Go.Proofs.YtfbjmhipjfjaeaaGreatDoor
open Go.ChangeShapes Go.WideShapes Go.ChangeAt Go.RowKit Go.Maps Pl
set_option linter.unusedVariables false
set_option linter.unusedSimpArgs false
/-- Steps in their order from the i-th on, k of them: where they end, and the code of the one that failed. -/
def Pl.goN (T : Nat → Dk) (E : Nat → Int) : Nat → Nat → Dk × Int
  | i, 0 => (T i, 0)
  | i, k + 1 => if E i = 0 then goN T E (i + 1) k else (T (i + 1), E i)
theorem Pl.goN_first (T : Nat → Dk) (E : Nat → Int) (k i : Nat) :
    ∃ m, i ≤ m ∧ m ≤ i + k ∧ (∀ j, i ≤ j → j < m → E j = 0) ∧ (m = i + k ∨ E m ≠ 0) ∧ goN T E i k = (T (if m = i + k then i + k else m + 1), if m = i + k then 0 else E m) := by
  induction k generalizing i with
  | zero => exact ⟨i, Nat.le_refl _, Nat.le_refl _, fun j h1 h2 => absurd h1 (by omega), .inl rfl, by simp [goN]⟩
  | succ k ih =>
    by_cases h : E i = 0
    · obtain ⟨m, h1, h2, h3, h4, h5⟩ := ih (i + 1)
      refine ⟨m, by omega, by omega, fun j hj1 hj2 => ?_, ?_, ?_⟩
      · rcases Nat.eq_or_lt_of_le hj1 with rfl | hlt
        · exact h
        · exact h3 j hlt hj2
      · rw [show i + (k + 1) = i + 1 + k by omega]; exact h4
      · rw [show i + (k + 1) = i + 1 + k by omega, goN, if_pos h]; exact h5
    · refine ⟨i, Nat.le_refl _, by omega, fun j h1 h2 => absurd h1 (by omega), .inr h, ?_⟩
      rw [goN, if_neg h, if_neg (by omega), if_neg (by omega)]
theorem each_run {H : Nat → Prop} {w : World} {b g n cp : Nat} {K : Nat → FuncId} {A C : Nat → Array Value} {T : Nat → Dk} {E : Nat → Int} (h : One H w b (T 0)) (hr : FnRow w g n K A C) (hg : ¬ H g) (hn : n ≤ 100)
    (hE : ∀ i, i < n → Ent (K i)) (hs : ∀ i, i < n → ∀ W, Solo H w W b (T i) → Calls Tryz.prog (K i) (A i ++ C i) W (SEnd H w b (T (i + 1)) (.int .i64 (E i)))) :
    Calls Tryz.prog 36 #[.slice (some ⟨g, 0, none⟩) n cp] w (EEnd H w b (goN T E 0 n).1 (goN T E 0 n).2) := by
  obtain ⟨m, -, h2, h3, h4, h5⟩ := goN_first T E n 0
  rw [Nat.zero_add] at h2 h4 h5
  rw [h5]
  exact each_any h hr hg hn h2 (fun i hi => h3 i (Nat.zero_le _) hi) hE h4 hs
section
variable {w : World} {l b : Nat} {a : Addr} {L : Lg}
theorem LogAt.put (h : LogAt w l b L) (i : Nat) (v : Value) {L' : Lg} (hL : (L.cells b).setIfInBounds i v = L'.cells b) : LogAt (w.setCell ⟨l, i, none⟩ v) l b L' := by
  unfold LogAt
  rw [← hL]
  have h : w.heap[l]? = some (.cells (L.cells b) 71 (0, 0)) := h
  simp [World.setCell, Array.getElem?_modify, h]
theorem LogAt.lt (h : LogAt w l b L) : l < w.heap.size := (Array.getElem?_eq_some_iff.1 h).1
theorem LogAt.kept {w' : World} {K : Nat → Prop} (h : LogAt w l b L) (hw : Wr K w w') (hl : ¬ K l) : LogAt w' l b L := (hw.block l h.lt hl).trans h
theorem Sent.kept {w' : World} {K : Nat → Prop} (h : Sent w a) (hw : Wr K w w') (h3 : 3 ≤ w.heap.size) (hl : ∀ k, k < 3 → ¬ K k) : Sent w' a := ⟨(World.cell?_of_block (hw.block 1 (by omega) (hl 1 (by omega)))).trans h.1, (World.cell?_of_block (hw.block 2 (by omega) (hl 2 (by omega)))).trans h.2⟩
set_option maxRecDepth 100000 in
theorem fails_nil (h : LogAt w l b L) (hb : L.broken = false) :
    Calls Tryz.prog 48 #[.pointer (some ⟨l, 0, none⟩), .nilIface] w fun e w' => e = .returned .nilIface ∧ w' = w.setCell ⟨l, 6, none⟩ (.bool false) := by
  have h6 : w.cell? ⟨l, 6, none⟩ = some (.bool L.broken) := h.cell 6
  have f6 := h.free 6
  rw [hb] at h6
  clear h hb
  go_enter Tryz.func48, Tryz.ntmps48
  go_wp2
  go_ret
  exact ⟨rfl, rfl⟩
set_option maxRecDepth 100000 in
theorem fails_err (h : LogAt w l b L) (hb : L.broken = false) (v : Value) :
    Calls Tryz.prog 48 #[.pointer (some ⟨l, 0, none⟩), .iface 122 v] w fun e w' => e = .returned (.iface 122 v) ∧ w' = w.setCell ⟨l, 6, none⟩ (.bool true) := by
  have h6 : w.cell? ⟨l, 6, none⟩ = some (.bool L.broken) := h.cell 6
  have f6 := h.free 6
  rw [hb] at h6
  clear h hb
  go_enter Tryz.func48, Tryz.ntmps48
  go_wp2
  go_ret
  exact ⟨rfl, rfl⟩
end
end Go.Proofs.YtfbjmhipjfjaeaaGreatDoor

namespace Go.Proofs.YtfbjmhipjfjaeaaGreatDoor
open Go.ChangeShapes Go.WideShapes Go.ChangeAt Go.RowKit Go.Maps Pl
set_option linter.unusedVariables false
set_option linter.unusedSimpArgs false
/-- A log at l, its disk at b, errBroken at a. -/
structure LW (P : Nat → Prop) (w : World) (l b : Nat) (a : Addr) (S : Dk) (L : Lg) : Prop where
  one : One P w b S
  log : LogAt w l b L
  sent : Sent w a
  nl : ¬ P l
  n1 : ∀ k, P k → 3 ≤ k
  ll : 3 ≤ l
namespace LW
variable {P Q : Nat → Prop} {w w' w3 : World} {l b : Nat} {a : Addr} {S S' : Dk} {L L' : Lg}
theorem below (h : LW P w l b a S L) (hw : Below w.heap.size w w') : LW P w' l b a S L :=
  ⟨h.one.below hw, h.log.kept (K := fun _ => False) (Wr.of_below hw) id, h.sent.kept (K := fun _ => False) (Wr.of_below hw) (by have := h.log.lt; have := h.ll; omega) (fun _ _ h => h), h.nl, h.n1, h.ll⟩
theorem drewN (h : LW P w l b a S L) (n : Nat) : LW P (w.drewN n) l b a S L := h.below (below_drewN (Below.refl _ _) n)
theorem three (h : LW P w l b a S L) : 3 ≤ w.heap.size := by have := h.log.lt; have := h.ll; omega
/-- What the disk's blocks are at the start of a call. -/
theorem start (h : LW P w l b a S L) : One (fun k => P k ∧ k < w.heap.size) w b S := h.one.bounded
/-- The disk was changed, beside the log. -/
theorem after {P4 : Nat → Prop} (h : LW P w l b a S L) (hb : Below w.heap.size w w3) (he : One P4 w' b S') (hp : ∀ k, P4 k → (P k ∧ k < w.heap.size) ∨ w3.heap.size ≤ k) (hw : Wr (fun k => P k ∧ k < w.heap.size) w3 w') :
    LW P4 w' l b a S' L ∧ Wr P w w' ∧ (∀ k, P4 k → P k ∨ w.heap.size ≤ k) := by
  have h3 := h.below hb
  have hs := hb.size
  have h2 := h.log.lt
  have h4 := h.ll
  refine ⟨⟨he, h3.log.kept hw fun hk => h.nl hk.1, h3.sent.kept hw (by have := h3.three; omega) (fun k hk3 hk => by have := h.n1 k hk.1; omega), fun hk => ?_, fun k hk => ?_, h.ll⟩, ?_, fun k hk => (hp k hk).imp (·.1) (fun hk => by omega)⟩
  · rcases hp l hk with hk | hk
    · exact h.nl hk.1
    · omega
  · rcases hp k hk with hk | hk
    · exact h.n1 k hk.1
    · omega
  · exact ((Wr.refl P w).trans (Wr.of_below (F := P) hb) (Grew.refl _ _)).trans hw fun k hk => .inl hk.1
theorem put (h : LW P w l b a S L) (i : Nat) (v : Value) (hL : (L.cells b).setIfInBounds i v = L'.cells b) : LW P (w.setCell ⟨l, i, none⟩ v) l b a S L' ∧ Wr (fun k => k = l) w (w.setCell ⟨l, i, none⟩ v) := by
  have hw : Wr (fun k => k = l) w (w.setCell ⟨l, i, none⟩ v) := Wr.setCell (F := fun k => k = l) (Wr.refl _ w) (p := ⟨l, i, none⟩) rfl v
  exact ⟨⟨h.one.kept hw fun k hk e => h.nl (e ▸ hk), h.log.put i v hL, h.sent.kept hw (by have := h.three; omega) (fun k hk e => by have := h.ll; omega), h.nl, h.n1, h.ll⟩, hw⟩
end LW
/-- How a call on the log ends: new disk and log, only their blocks written. -/
def LgEnd (P : Nat → Prop) (w : World) (l b : Nat) (a : Addr) (S : Dk) (L : Lg) (w' : World) : Prop :=
  ∃ P', LW P' w' l b a S L ∧ (∀ k, P' k → P k ∨ w.heap.size ≤ k) ∧ Wr (fun k => P k ∨ k = l) w w'
/-- The same, and an error. -/
def LgErr (P : Nat → Prop) (w : World) (l b : Nat) (a : Addr) (S : Dk) (L : Lg) (c : Int) (e : Ending) (w' : World) : Prop :=
  ∃ v, e = .returned v ∧ LgEnd P w l b a S L w' ∧ ErrIs (fun _ => False) w w' c v
namespace LgEnd
variable {P : Nat → Prop} {w w' w2 : World} {l b : Nat} {a : Addr} {S S' : Dk} {L L' : Lg}
theorem refl (h : LW P w l b a S L) : LgEnd P w l b a S L w := ⟨P, h, fun k hk => .inl hk, Wr.refl _ _⟩
theorem below (h : LgEnd P w l b a S L w') (hb : Below w'.heap.size w' w2) : LgEnd P w l b a S L w2 := by
  obtain ⟨P', h1, h2, h3⟩ := h
  exact ⟨P', h1.below hb, h2, h3.trans (Wr.of_below hb) (Grew.refl _ _)⟩
theorem trans (h : LgEnd P w l b a S L w') (k : ∀ P', LW P' w' l b a S L → LgEnd P' w' l b a S' L' w2) : LgEnd P w l b a S' L' w2 := by
  obtain ⟨P', h1, h2, h3⟩ := h
  obtain ⟨P2, k1, k2, k3⟩ := k P' h1
  refine ⟨P2, k1, fun q hq => ?_, h3.trans k3 fun q hq => ?_⟩
  · rcases k2 q hq with hq | hq
    · exact h2 q hq
    · exact .inr (Nat.le_trans h3.size hq)
  · rcases hq with hq | hq
    · exact (h2 q hq).imp .inl id
    · exact .inl (.inr hq)
theorem early {wq : World} (h : LgEnd P wq l b a S L w') (hb : Below w.heap.size w wq) : LgEnd P w l b a S L w' := by
  obtain ⟨P', h1, h2, h3⟩ := h
  exact ⟨P', h1, fun k hk => (h2 k hk).imp id (fun hk => Nat.le_trans hb.size hk), (Wr.of_below hb).trans h3 (Grew.refl _ _)⟩
theorem put (h : LgEnd P w l b a S L w') (i : Nat) (v : Value) (hL : (L.cells b).setIfInBounds i v = L'.cells b) : LgEnd P w l b a S L' (w'.setCell ⟨l, i, none⟩ v) :=
  h.trans fun P' h1 => ⟨P', (h1.put i v hL).1, fun k hk => .inl hk, (h1.put i v hL).2.mono fun k hk _ => .inr hk⟩
theorem of_each {P4 : Nat → Prop} {w3 : World} (h : LW P w l b a S L) (hb : Below w.heap.size w w3) (he : One P4 w' b S') (hp : ∀ k, P4 k → (P k ∧ k < w.heap.size) ∨ w3.heap.size ≤ k) (hw : Wr (fun k => P k ∧ k < w.heap.size) w3 w') : LgEnd P w l b a S' L w' := by
  obtain ⟨h1, h2, h3⟩ := h.after hb he hp hw
  exact ⟨P4, h1, h3, h2.mono fun k hk _ => .inl hk⟩
end LgEnd
/-- A step on the disk. -/
inductive Pl.Stp where
  | create (n : Tx)
  | append (n s : Tx)
  | sync (n : Tx)
  | trunc (n : Tx) (k : Int)
  | rename (n m : Tx)
  | remove (n : Tx)
  | names
def Pl.Stp.f : Stp → Dk → Dk
  | .create n, S => S.createS n
  | .append n s, S => S.appendS n s
  | .sync n, S => S.syncS n
  | .trunc n k, S => S.truncS n k
  | .rename n m, S => S.renameS n m
  | .remove n, S => S.removeS n
  | .names, S => S.namesS
def Pl.Stp.e : Stp → Dk → Int
  | .create n, S => S.createE n
  | .append n _, S => S.appendE n
  | .sync n, S => S.appendE n
  | .trunc n _, S => S.appendE n
  | .rename n m, S => S.renameE n m
  | .remove n, S => S.appendE n
  | .names, S => S.namesE
def Pl.Stp.ok : Stp → Prop
  | .create n => n.length ≤ 33554432
  | .append n s => n.length ≤ 33554432 ∧ s.length ≤ 33554432
  | .sync n => n.length ≤ 33554432
  | .trunc n _ => n.length ≤ 33554432
  | .rename n m => n.length ≤ 33554432 ∧ m.length ≤ 33554432
  | .remove n => n.length ≤ 33554432
  | .names => True
theorem Pl.Stp.inv (x : Stp) {S : Dk} (h : S.Inv) : (x.f S).Inv := by
  cases x with
  | create n => exact h.create n
  | append n s => exact h.append n s
  | sync n => exact h.syn n
  | trunc n k => exact h.trunc n k
  | rename n m => exact h.rename n m
  | remove n => exact h.remove n
  | names => exact h.syncNames
theorem Pl.Stp.small {x : Stp} (hx : x.ok) {S : Dk} {j : Nat} (h : S.Small j) : (x.f S).Small (j + 1) := by
  cases x with
  | create n => exact h.create hx
  | append n s => exact h.append n hx.2
  | sync n => exact h.syn n
  | trunc n k => exact h.trunc n k
  | rename n m => exact h.rename hx.1 hx.2
  | remove n => exact h.remove hx
  | names => exact h.syncNames
/-- Steps in their order, up to the first that is refused. -/
def Pl.goL : List Stp → Dk → Dk × Int
  | [], S => (S, 0)
  | x :: r, S => if x.e S = 0 then goL r (x.f S) else (x.f S, x.e S)
theorem Pl.goL1 (x : Stp) (S : Dk) : goL [x] S = (x.f S, x.e S) := by
  unfold goL goL
  split
  next h => rw [h]
  · rfl
def Pl.atL (xs : List Stp) (S : Dk) (i : Nat) : Dk := (xs.take i).foldl (fun S x => x.f S) S
def Pl.codeL (xs : List Stp) (S : Dk) (i : Nat) : Int := match xs[i]? with
  | some x => x.e (atL xs S i)
  | none => 0
theorem Pl.atL_succ {xs : List Stp} {S : Dk} {i : Nat} {x : Stp} (hx : xs[i]? = some x) : atL xs S (i + 1) = x.f (atL xs S i) := by
  obtain ⟨hi, he⟩ := List.getElem?_eq_some_iff.1 hx
  unfold atL
  rw [List.take_succ_eq_append_getElem hi, List.foldl_append, he]
  rfl
theorem Pl.goN_goL (xs : List Stp) (S : Dk) : ∀ (k i : Nat), i + k = xs.length → goN (atL xs S) (codeL xs S) i k = goL (xs.drop i) (atL xs S i)
  | 0, i, h => by
    rw [List.drop_of_length_le (by omega)]; rfl
  | k + 1, i, h => by
    have hi : i < xs.length := by omega
    have hx : xs[i]? = some xs[i] := List.getElem?_eq_getElem hi
    rw [List.drop_eq_getElem_cons hi]
    unfold goN goL
    rw [Pl.goN_goL xs S k (i + 1) (by omega), atL_succ hx]
    simp only [codeL, hx]
theorem Pl.atL_inv (xs : List Stp) {S : Dk} (h : S.Inv) : ∀ i, (atL xs S i).Inv
  | 0 => by simpa [atL] using h
  | i + 1 => by
    rcases hx : xs[i]? with _ | x
    · have : xs.take (i + 1) = xs.take i := by
        have := List.getElem?_eq_none_iff.1 hx
        rw [List.take_of_length_le (by omega), List.take_of_length_le this]
      unfold atL; rw [this]; exact Pl.atL_inv xs h i
    · rw [atL_succ hx]; exact x.inv (Pl.atL_inv xs h i)
theorem Pl.atL_small {xs : List Stp} (hok : ∀ x ∈ xs, x.ok) {S : Dk} {j : Nat} (h : S.Small j) : ∀ i, (atL xs S i).Small (j + i)
  | 0 => by simpa [atL] using h
  | i + 1 => by
    rcases hx : xs[i]? with _ | x
    · have : xs.take (i + 1) = xs.take i := by
        have := List.getElem?_eq_none_iff.1 hx
        rw [List.take_of_length_le (by omega), List.take_of_length_le this]
      unfold atL; rw [this]; exact (Pl.atL_small hok h i).mono (by omega)
    · rw [atL_succ hx]; exact Stp.small (hok x (List.mem_of_getElem? hx)) (Pl.atL_small hok h i)
theorem ErrIs.early {P : Nat → Prop} {w wq w' : World} {c : Int} {v : Value} (h : ErrIs P wq w' c v) (hb : w.heap.size ≤ wq.heap.size) : ErrIs P w w' c v := by
  rcases h with h | ⟨hc, f, hv, hf, h1, h2⟩
  · exact .inl h
  · exact .inr ⟨hc, f, hv, hf, Nat.le_trans hb h1, h2⟩
/-- A value that does a step on the disk. -/
def StepFn (H : Nat → Prop) (w : World) (b : Nat) (x : Stp) (v : Value) : Prop :=
  ∃ K A C, v = .func (.func K) A C ∧ Ent K ∧ x.ok ∧ ∀ (W : World) (S : Dk) (j : Nat), S.Inv → S.Small j → j ≤ 4194300 → Solo H w W b S → Calls Tryz.prog K (A ++ C) W (SEnd H w b (x.f S) (.int .i64 (x.e S)))
theorem each_list {H : Nat → Prop} {w : World} {b g cp j n : Nat} {S : Dk} {xs : List Stp} {vs : List Value} {ty : TypeId} (h : One H w b S) (hI : S.Inv) (hS : S.Small j) (hj : j ≤ 4194200) (hn : n ≤ 90)
    (hr : w.heap[g]? = some (.cells vs.toArray ty (0, 0))) (hg : ¬ H g) (hx : xs.length = n) (hv : vs.length = n) (hs : ∀ (i : Nat) (x : Stp) (v : Value), xs[i]? = some x → vs[i]? = some v → StepFn H w b x v) :
    Calls Tryz.prog 36 #[.slice (some ⟨g, 0, none⟩) n cp] w (EEnd H w b (goL xs S).1 (goL xs S).2) := by
  have hgl : g < w.heap.size := (Array.getElem?_eq_some_iff.1 hr).1
  have hall : ∀ i : Nat, ∃ q : FuncId × Array Value × Array Value, ∀ x, xs[i]? = some x → vs[i]? = some (.func (.func q.1) q.2.1 q.2.2) ∧ Ent q.1 ∧ x.ok ∧
      ∀ (W : World) (S : Dk) (j : Nat), S.Inv → S.Small j → j ≤ 4194300 → Solo H w W b S → Calls Tryz.prog q.1 (q.2.1 ++ q.2.2) W (SEnd H w b (x.f S) (.int .i64 (x.e S))) := by
    intro i
    rcases hxi : xs[i]? with _ | x
    · exact ⟨(0, #[], #[]), fun x h => by cases h⟩
    · have hi := (List.getElem?_eq_some_iff.1 hxi).1
      have hvi : vs[i]? = some (vs[i]'(by omega)) := List.getElem?_eq_getElem _
      obtain ⟨K, A, C, e, h1, h2, h3⟩ := hs i x _ hxi hvi
      exact ⟨(K, A, C), fun y hy => by cases hy; exact ⟨by rw [hvi, e], h1, h2, h3⟩⟩
  obtain ⟨q, hq⟩ := Classical.axiomOfChoice hall
  have hok : ∀ x ∈ xs, x.ok := fun x hm => by
    obtain ⟨i, hi⟩ := List.mem_iff_getElem?.1 hm
    exact (hq i x hi).2.2.1
  have hget : ∀ i, i < n → ∃ x, xs[i]? = some x := fun i hi => ⟨xs[i]'(by omega), List.getElem?_eq_getElem _⟩
  have := each_run (H := H) (w := w) (b := b) (g := g) (n := n) (cp := cp) (K := fun i => (q i).1) (A := fun i => (q i).2.1) (C := fun i => (q i).2.2) (T := atL xs S) (E := codeL xs S) (by simpa [atL] using h)
    ⟨hgl, fun i hi => by
      obtain ⟨x, hxi⟩ := hget i hi
      have h1 := (hq i x hxi).1
      simp [World.cell?, hr, h1]⟩ hg (by omega) (fun i hi => by
      obtain ⟨x, hxi⟩ := hget i hi
      exact (hq i x hxi).2.1) (fun i hi W hW => by
      obtain ⟨x, hxi⟩ := hget i hi
      have h1 := (hq i x hxi).2.2.2 W (atL xs S i) (j + i) (atL_inv xs hI i) (atL_small hok hS i) (by omega) hW
      rw [atL_succ hxi]
      simp only [codeL, hxi]
      exact h1)
  rw [goN_goL xs S n 0 (by omega)] at this
  simpa [atL] using this
section
variable {H : Nat → Prop} {w : World} {b p q r : Nat}
theorem Bx.kept {w' : World} {v : Value} (h : Bx w p v) (hl : p < w.heap.size) (hn : ¬ H p) (hw : Wr H w w') : Bx w' p v := (World.cell?_of_block (hw.block p hl hn)).trans h
theorem step_names (b : Nat) : StepFn H w b .names (.func (.func 39) #[.pointer (some ⟨b, 0, none⟩)] #[]) :=
  ⟨_, _, _, rfl, ent_names, trivial, fun W S j hI hS hj hW => hW.syncNames hI hS hj⟩
theorem step_sync (hp : Bx w p (.pointer (some ⟨b, 0, none⟩))) (hl : p < w.heap.size) (hn : ¬ H p) : StepFn H w b (.sync logN) (.func (.func 75) #[] #[.pointer (some ⟨p, 0, none⟩)]) :=
  ⟨_, _, _, rfl, ent_syncs1, logN_len, fun W S j hI hS hj hW => syncs1_any hW hI hS hj (hp.kept hl hn hW.2)⟩
theorem step_remove (hp : Bx w p (.pointer (some ⟨b, 0, none⟩))) (hl : p < w.heap.size) (hn : ¬ H p) : StepFn H w b (.remove tempN) (.func (.func 37) #[] #[.pointer (some ⟨p, 0, none⟩)]) :=
  ⟨_, _, _, rfl, ent_open1, tempN_len, fun W S j hI hS hj hW => open1_any hW hI hS hj (hp.kept hl hn hW.2)⟩
theorem step_create (hp : Bx w p (.pointer (some ⟨b, 0, none⟩))) (hl : p < w.heap.size) (hn : ¬ H p) : StepFn H w b (.create logN) (.func (.func 41) #[] #[.pointer (some ⟨p, 0, none⟩)]) :=
  ⟨_, _, _, rfl, ent_open2, logN_len, fun W S j hI hS hj hW => open2_any hW hI hS hj (hp.kept hl hn hW.2)⟩
theorem step_append {n s : Tx} (hln : n.length ≤ 33554432) (hls : s.length ≤ 33554432) (hp : Bx w p (.pointer (some ⟨b, 0, none⟩))) (hq : Bx w q (.string (str n))) (hr : Bx w r (.string (str s)))
    (hl : p < w.heap.size ∧ ¬ H p) (hl2 : q < w.heap.size ∧ ¬ H q) (hl3 : r < w.heap.size ∧ ¬ H r) :
    StepFn H w b (.append n s) (.func (.func 73) #[] #[.pointer (some ⟨p, 0, none⟩), .pointer (some ⟨q, 0, none⟩), .pointer (some ⟨r, 0, none⟩)]) :=
  ⟨_, _, _, rfl, ent_append1, ⟨hln, hls⟩, fun W S j hI hS hj hW => append1_any hW hI hS hj n s hln hls (hp.kept hl.1 hl.2 hW.2) (hq.kept hl2.1 hl2.2 hW.2) (hr.kept hl3.1 hl3.2 hW.2)⟩
end
end Go.Proofs.YtfbjmhipjfjaeaaGreatDoor
