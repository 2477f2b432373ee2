/- The program's disk in a call's memory since w1; steps in their order. aof: the closures, what makes them. aof: has. -/
import Derived.Test.YtfbjmhipjfjaeaaGreatDoorM06
namespace Go.Proofs.YtfbjmhipjfjaeaaGreatDoor
open Go.ChangeShapes Go.WideShapes Go.ChangeAt Go.RowKit Go.Maps Pl
set_option linter.unusedVariables false
set_option linter.unusedSimpArgs false

def One (P : Nat → Prop) (w : World) (b : Nat) (S : Dk) : Prop := ∃ F, Dsk w b F S ∧ ∀ k, F k → P k
theorem dsk_lt {w : World} {b : Nat} {F : Nat → Prop} {S : Dk} (h : Dsk w b F S) : ∀ k, F k → k < w.heap.size := by
  obtain ⟨φ, nm, lm, ov, pv, d⟩ := h; exact d.lt
theorem dsk_kept {w w' : World} {b : Nat} {F G : Nat → Prop} {S : Dk} (h : Dsk w b F S) (hw : Wr G w w') (hFG : ∀ k, F k → ¬ G k) : Dsk w' b F S := by
  obtain ⟨φ, nm, lm, ov, pv, d⟩ := h; exact ⟨φ, nm, lm, ov, pv, d.kept hw hFG⟩
def OneEnd (P : Nat → Prop) (b : Nat) (S : Dk) (v : Value) (w : World) (e : Ending) (w' : World) : Prop := e = .returned v ∧ One (fun k => P k ∨ w.heap.size ≤ k) w' b S ∧ Wr P w w'
namespace One
variable {P Q K : Nat → Prop} {w w' : World} {b : Nat} {S S' : Dk}
theorem mono (h : One P w b S) (hPQ : ∀ k, P k → Q k) : One Q w b S := by obtain ⟨F, d, hp⟩ := h; exact ⟨F, d, fun k hk => hPQ k (hp k hk)⟩
theorem kept (h : One P w b S) (hw : Wr K w w') (hPK : ∀ k, P k → ¬ K k) : One P w' b S := by
  obtain ⟨F, d, hp⟩ := h; exact ⟨F, dsk_kept d hw fun k hk => hPK k (hp k hk), hp⟩
theorem below (h : One P w b S) (hw : Below w.heap.size w w') : One P w' b S := h.kept (K := fun _ => False) (Wr.of_below hw) (fun _ _ h => h)
theorem bounded (h : One P w b S) : One (fun k => P k ∧ k < w.heap.size) w b S := by obtain ⟨F, d, hp⟩ := h; exact ⟨F, d, fun k hk => ⟨hp k hk, dsk_lt d k hk⟩⟩
theorem p {v : Value} {f : FuncId} {args : Array Value} (h : One P w b S) (hc : ∀ F, (∀ k, F k → P k) → Dsk w b F S → Calls Tryz.prog f args w (OpEnd b F S' v w)) : Calls Tryz.prog f args w (OneEnd P b S' v w) := by
  obtain ⟨F, d, hp⟩ := h
  refine (hc F hp d).mono fun e w' he => ?_
  obtain ⟨he, F', d', g, hw⟩ := he
  exact ⟨he, ⟨F', d', fun k hk => (g k hk).imp (hp k) id⟩, hw.mono fun k hk _ => hp k hk⟩
end One
/-- The disk in a call's own memory since w1. -/
def Solo (H : Nat → Prop) (w1 w : World) (b : Nat) (S : Dk) : Prop := One (fun k => H k ∨ w1.heap.size ≤ k) w b S ∧ Wr H w1 w
def SEnd (H : Nat → Prop) (w1 : World) (b : Nat) (S : Dk) (v : Value) (e : Ending) (w' : World) : Prop := e = .returned v ∧ Solo H w1 w' b S
namespace Solo
variable {H : Nat → Prop} {w1 w w' : World} {b j : Nat} {S S' : Dk}
theorem of (h : Solo H w1 w b S) {e : Ending} {v : Value} (he : OneEnd (fun k => H k ∨ w1.heap.size ≤ k) b S' v w e w') : SEnd H w1 b S' v e w' :=
  ⟨he.1, he.2.1.mono fun k hk => hk.elim id fun hk => .inr (Nat.le_trans h.2.size hk), h.2.trans he.2.2 fun k hk => hk⟩
theorem below (h : Solo H w1 w b S) (hw : Below w.heap.size w w') : Solo H w1 w' b S := ⟨h.1.below hw, h.2.trans (Wr.of_below hw) (Grew.refl _ _)⟩
theorem drew (h : Solo H w1 w b S) : Solo H w1 w.drew b S := h.below (Below.refl _ _).drew
theorem drewN (h : Solo H w1 w b S) (n : Nat) : Solo H w1 (w.drewN n) b S := h.below (below_drewN (Below.refl _ _) n)
theorem alloc (h : Solo H w1 w b S) (o : Obj) : Solo H w1 (w.alloc o) b S := h.below ((Below.refl _ _).alloc (Nat.le_refl _) o)
/-- From here on. -/
theorem at_ (h : Solo H w1 w b S) : ∃ H', One H' w b S ∧ (∀ k, H' k → (H k ∨ w1.heap.size ≤ k) ∧ k < w.heap.size) := ⟨fun k => (H k ∨ w1.heap.size ≤ k) ∧ k < w.heap.size, h.1.bounded, fun k hk => hk⟩
theorem start {H' : Nat → Prop} (h : One H' w b S) : Solo H' w w b S := ⟨h.mono fun k hk => .inl hk, Wr.refl _ _⟩
theorem back {H' : Nat → Prop} {w2 : World} (h : Solo H w1 w b S) (hw : Below w.heap.size w w2) (h' : Solo H' w2 w' b S') (hH : ∀ k, H' k → H k ∨ w1.heap.size ≤ k) : Solo H w1 w' b S' :=
  ⟨h'.1.mono fun k hk => hk.elim (hH k) fun hk => .inr (Nat.le_trans (Nat.le_trans h.2.size hw.size) hk), (h.2.trans (Wr.of_below hw) (Grew.refl _ _)).trans h'.2 fun k hk => hH k hk⟩
theorem create (h : Solo H w1 w b S) (hI : S.Inv) (hS : S.Small j) (hj : j ≤ 4194300) (n : Tx) (hn : n.length ≤ 33554432) :
    Calls Tryz.prog 21 #[.pointer (some ⟨b, 0, none⟩), .string (str n)] w (SEnd H w1 b (S.createS n) (.int .i64 (S.createE n))) :=
  (h.1.p fun F _ d => create_any d hI hS (by omega) n hn).mono fun e w' he => h.of he
theorem append (h : Solo H w1 w b S) (hI : S.Inv) (hS : S.Small j) (hj : j ≤ 4194300) (n s : Tx) (hn : n.length ≤ 33554432) (hs : s.length ≤ 33554432) :
    Calls Tryz.prog 22 #[.pointer (some ⟨b, 0, none⟩), .string (str n), .string (str s)] w (SEnd H w1 b (S.appendS n s) (.tuple #[.int .i64 (S.appendN n s), .int .i64 (S.appendE n)])) :=
  (h.1.p fun F _ d => append_any d hI hS (by omega) n s hn hs).mono fun e w' he => h.of he
theorem trunc (h : Solo H w1 w b S) (hI : S.Inv) (hS : S.Small j) (hj : j ≤ 4194300) (n : Tx) (k : Int) (hn : n.length ≤ 33554432) :
    Calls Tryz.prog 68 #[.pointer (some ⟨b, 0, none⟩), .string (str n), .int .i64 k] w (SEnd H w1 b (S.truncS n k) (.int .i64 (S.appendE n))) :=
  (h.1.p fun F _ d => truncate_any d hI hS (by omega) n k hn).mono fun e w' he => h.of he
theorem sync (h : Solo H w1 w b S) (hI : S.Inv) (hS : S.Small j) (hj : j ≤ 4194300) (n : Tx) (hn : n.length ≤ 33554432) :
    Calls Tryz.prog 52 #[.pointer (some ⟨b, 0, none⟩), .string (str n)] w (SEnd H w1 b (S.syncS n) (.int .i64 (S.appendE n))) :=
  (h.1.p fun F _ d => sync_any d hI hS (by omega) n hn).mono fun e w' he => h.of he
theorem rename (h : Solo H w1 w b S) (hI : S.Inv) (hS : S.Small j) (hj : j ≤ 4194300) (n m : Tx) (hn : n.length ≤ 33554432) (hm : m.length ≤ 33554432) :
    Calls Tryz.prog 54 #[.pointer (some ⟨b, 0, none⟩), .string (str n), .string (str m)] w (SEnd H w1 b (S.renameS n m) (.int .i64 (S.renameE n m))) :=
  (h.1.p fun F _ d => rename_any d hI hS (by omega) n m hn hm).mono fun e w' he => h.of he
theorem remove (h : Solo H w1 w b S) (hI : S.Inv) (hS : S.Small j) (hj : j ≤ 4194300) (n : Tx) (hn : n.length ≤ 33554432) :
    Calls Tryz.prog 38 #[.pointer (some ⟨b, 0, none⟩), .string (str n)] w (SEnd H w1 b (S.removeS n) (.int .i64 (S.appendE n))) :=
  (h.1.p fun F _ d => remove_any d hI hS (by omega) n hn).mono fun e w' he => h.of he
theorem syncNames (h : Solo H w1 w b S) (hI : S.Inv) (hS : S.Small j) (hj : j ≤ 4194300) :
    Calls Tryz.prog 39 #[.pointer (some ⟨b, 0, none⟩)] w (SEnd H w1 b S.namesS (.int .i64 S.namesE)) :=
  (h.1.p fun F _ d => syncNames_any d hI hS (by omega)).mono fun e w' he => h.of he
end Solo
/-- A closure is entered. -/
def Ent (k : FuncId) : Prop := ∀ (args : Array Value) (w : World), (callFunc k args).run Tryz.prog w = .ok (.enter k args) w
/-- A row of function values: the i-th is closure K i, what it was given first, what it captured. -/
def FnRow (w : World) (g n : Nat) (K : Nat → FuncId) (A C : Nat → Array Value) : Prop := g < w.heap.size ∧ ∀ i, i < n → w.cell? ⟨g, i, none⟩ = some (.func (.func (K i)) (A i) (C i))
/-- What an error tells: none, or a fault of number c, laid in new memory beside the disk. -/
def ErrIs (P : Nat → Prop) (w0 w' : World) (c : Int) (v : Value) : Prop := (c = 0 ∧ v = .nilIface) ∨ (c ≠ 0 ∧ ∃ f, v = .iface 122 (.pointer (some ⟨f, 0, none⟩)) ∧ w'.cell? ⟨f, 0, none⟩ = some (.int .i64 c) ∧ w0.heap.size ≤ f ∧ f < w'.heap.size ∧ ¬ P f)
def EEnd (H : Nat → Prop) (w1 : World) (b : Nat) (S : Dk) (c : Int) (e : Ending) (w' : World) : Prop :=
  ∃ v P, e = .returned v ∧ One P w' b S ∧ (∀ k, P k → H k ∨ w1.heap.size ≤ k) ∧ Wr H w1 w' ∧ ErrIs P w1 w' c v
theorem eend_ok {H : Nat → Prop} {w w2 : World} {b : Nat} {S : Dk} (h : Solo H w w2 b S) : EEnd H w b S 0 (.returned .nilIface) w2 :=
  ⟨_, _, rfl, h.1, fun k hk => hk, h.2, .inl ⟨rfl, rfl⟩⟩
theorem eend_err {H : Nat → Prop} {w w2 : World} {b : Nat} {S : Dk} {c : Int} (h : Solo H w w2 b S) (hc : c ≠ 0) :
    EEnd H w b S c (.returned (.iface 122 (.pointer (some ⟨w2.heap.size, 0, none⟩)))) (w2.alloc (.cells #[.int .i64 c] 127)) :=
  ⟨_, _, rfl, (h.1.bounded).below ((Below.refl _ _).alloc (Nat.le_refl _) _), fun k hk => hk.1, (h.alloc _).2, .inr ⟨hc, _, rfl, (World.cell?_alloc_at _ _ _ 0 rfl).trans rfl, h.2.size, (by show _ < (w2.heap.push _).size; rw [Array.size_push]; exact Nat.lt_succ_self _), fun hk => Nat.lt_irrefl _ hk.2⟩⟩
set_option maxRecDepth 100000 in
theorem wrap_any (c : Int) (w : World) : Calls Tryz.prog 66 #[.int .i64 c] w (fun e w' => (c = 0 ∧ e = .returned .nilIface ∧ w' = w) ∨ (c ≠ 0 ∧ e = .returned (.iface 122 (.pointer (some ⟨w.heap.size, 0, none⟩))) ∧ w' = w.alloc (.cells #[.int .i64 c] 127))) := by
  by_cases h : c = 0
  · subst h
    go_enter Tryz.func66, Tryz.ntmps66
    go_wp2
    go_ret
    exact .inl ⟨trivial, rfl, rfl⟩
  · go_enter Tryz.func66, Tryz.ntmps66
    go_wp2
    go_ret
    exact .inr ⟨h, rfl, rfl⟩
set_option maxRecDepth 100000 in
theorem each_any {H : Nat → Prop} {w : World} {b g n cp m : Nat} {K : Nat → FuncId} {A C : Nat → Array Value} {T : Nat → Dk} {E : Nat → Int} (h : One H w b (T 0)) (hr : FnRow w g n K A C) (hg : ¬ H g) (hn : n ≤ 100) (hm : m ≤ n)
    (he : ∀ i, i < m → E i = 0) (hE : ∀ i, i < n → Ent (K i)) (hend : m = n ∨ E m ≠ 0)
    (hs : ∀ i, i < n → ∀ W, Solo H w W b (T i) → Calls Tryz.prog (K i) (A i ++ C i) W (SEnd H w b (T (i + 1)) (.int .i64 (E i)))) :
    Calls Tryz.prog 36 #[.slice (some ⟨g, 0, none⟩) n cp] w (EEnd H w b (T (if m = n then n else m + 1)) (if m = n then 0 else E m)) := by
  have HS := Lib.hid hs
  have HEE := Lib.hid hE
  have HZ := Lib.hid he
  have HX := Lib.hid hend
  have HD := Lib.hid (Solo.start h)
  have HR := Lib.hid (fun W (hW : Wr H w W) => (show ∀ i, i < n → W.cell? ⟨g, i, none⟩ = some (.func (.func (K i)) (A i) (C i)) from fun i hi => 
    (World.cell?_of_block (hW.block g hr.1 hg)).trans (hr.2 i hi)))
  obtain ⟨S', hS'⟩ : ∃ S', T (if m = n then n else m + 1) = S' := ⟨_, rfl⟩
  obtain ⟨c', hc'⟩ : ∃ c', (if m = n then 0 else E m) = c' := ⟨_, rfl⟩
  rw [hS', hc']
  have hS' := Lib.hid hS'
  have hc' := Lib.hid hc'
  clear h hs hE he hend
  go_enter Tryz.func36, Tryz.ntmps36
  go_wp2_with fail
  go_loopw [8] (fun i wr => ∃ q : Nat, q ≤ m ∧ i = .int .i64 q ∧ Hid (Solo H w wr b (T q))) (fun i _ => n - (intOf i).toNat)
  case atStart => exact ⟨0, Nat.zero_le _, rfl, HD.out⟩
  case round =>
    obtain ⟨q, hq, rfl, hd⟩ := hrel
    by_cases hql : q < n
    · have hc := HR.out wr hd.out.2 q hql
      have hqI : (q : Int) < (n : Int) := by omega
      have hq0 : (0 : Int) ≤ (q : Int) := by omega
      have HSq := Lib.hid (HS.out q hql wr hd.out)
      have HKq : ∀ (args : Array Value) (w : World), (callFunc (K q) args).run Tryz.prog w = .ok (.enter (K q) args) w := HEE.out q hql
      by_cases hqm : q < m
      · rw [HZ.out q hqm] at HSq
        go_wp2_with fail
        refine HSq.out.mono ?_
        rintro e w2 ⟨rfl, h2⟩
        have h2 := Lib.hid h2
        go_wp2
        go_roundw
        · exact ⟨q + 1, by omega, by go_num, h2⟩
        · simp only [intOf]; omega
      · obtain rfl : q = m := by omega
        have hq1 : q ≠ n := by omega
        have hEq : E q ≠ 0 := HX.out.resolve_left hq1
        go_wp2_with fail
        refine HSq.out.mono ?_
        rintro e w2 ⟨rfl, h2⟩
        have h2 := Lib.hid h2
        go_wp2_with fail
        refine (wrap_any _ _).mono ?_
        rintro e w3 (⟨hx, -⟩ | ⟨-, rfl, rfl⟩)
        · exact absurd hx hEq
        go_wp2
        go_ret
        have hS2 := hS'.out; have hc2 := hc'.out
        simp only [if_neg hq1] at hS2 hc2
        subst hS2 hc2
        exact eend_err h2.out hEq
    · obtain rfl : q = n := by omega
      obtain rfl : q = m := by omega
      go_wp2
      go_ret
      have hS2 := hS'.out; have hc2 := hc'.out
      simp only [↓reduceIte] at hS2 hc2
      subst hS2 hc2
      exact eend_ok hd.out
end Go.Proofs.YtfbjmhipjfjaeaaGreatDoor

namespace Go.Proofs.YtfbjmhipjfjaeaaGreatDoor
open Go.ChangeShapes Go.WideShapes Go.ChangeAt Go.RowKit Go.Maps Pl
set_option linter.unusedVariables false
set_option linter.unusedSimpArgs false
def logN : Tx := [99, 111, 118, 101, 110, 97, 110, 116, 46, 97, 111, 102]
def tempN : Tx := [99, 111, 118, 101, 110, 97, 110, 116, 46, 116, 109, 112]
theorem logN_len : logN.length ≤ 33554432 := by decide
theorem tempN_len : tempN.length ≤ 33554432 := by decide
/-- A box of one value. -/
def Bx (w : World) (k : Nat) (v : Value) : Prop := w.cell? ⟨k, 0, none⟩ = some v
section
variable {H : Nat → Prop} {w1 w : World} {b j p q r : Nat} {S : Dk}
set_option maxRecDepth 100000 in
theorem append1_any (h : Solo H w1 w b S) (hI : S.Inv) (hS : S.Small j) (hj : j ≤ 4194300) (n s : Tx) (hn : n.length ≤ 33554432) (hs : s.length ≤ 33554432)
    (hp : Bx w p (.pointer (some ⟨b, 0, none⟩))) (hq : Bx w q (.string (str n))) (hr : Bx w r (.string (str s))) :
    Calls Tryz.prog 73 #[.pointer (some ⟨p, 0, none⟩), .pointer (some ⟨q, 0, none⟩), .pointer (some ⟨r, 0, none⟩)] w (SEnd H w1 b (S.appendS n s) (.int .i64 (S.appendE n))) := by
  have HC := Lib.hid (h.append hI hS hj n s hn hs)
  have hp : w.cell? ⟨p, 0, none⟩ = _ := hp
  have hq : w.cell? ⟨q, 0, none⟩ = _ := hq
  have hr : w.cell? ⟨r, 0, none⟩ = _ := hr
  clear h hI hS
  go_enter Tryz.func73, Tryz.ntmps73
  go_wp2_with fail
  refine HC.out.mono ?_
  rintro e w2 ⟨rfl, h2⟩
  have h2 := Lib.hid h2
  go_wp2
  go_ret
  exact ⟨rfl, h2.out⟩
set_option maxRecDepth 100000 in
theorem syncs1_any (h : Solo H w1 w b S) (hI : S.Inv) (hS : S.Small j) (hj : j ≤ 4194300) (hp : Bx w p (.pointer (some ⟨b, 0, none⟩))) :
    Calls Tryz.prog 75 #[.pointer (some ⟨p, 0, none⟩)] w (SEnd H w1 b (S.syncS logN) (.int .i64 (S.appendE logN))) := by
  have HC := Lib.hid (h.sync hI hS hj logN logN_len)
  have hp : w.cell? ⟨p, 0, none⟩ = _ := hp
  clear h hI hS
  go_enter Tryz.func75, Tryz.ntmps75
  go_wp2_with fail
  refine HC.out.mono ?_
  rintro e w2 ⟨rfl, h2⟩
  have h2 := Lib.hid h2
  go_wp2
  go_ret
  exact ⟨rfl, h2.out⟩
set_option maxRecDepth 100000 in
theorem open1_any (h : Solo H w1 w b S) (hI : S.Inv) (hS : S.Small j) (hj : j ≤ 4194300) (hp : Bx w p (.pointer (some ⟨b, 0, none⟩))) :
    Calls Tryz.prog 37 #[.pointer (some ⟨p, 0, none⟩)] w (SEnd H w1 b (S.removeS tempN) (.int .i64 (S.appendE tempN))) := by
  have HC := Lib.hid (h.remove hI hS hj tempN tempN_len)
  have hp : w.cell? ⟨p, 0, none⟩ = _ := hp
  clear h hI hS
  go_enter Tryz.func37, Tryz.ntmps37
  go_wp2_with fail
  refine HC.out.mono ?_
  rintro e w2 ⟨rfl, h2⟩
  have h2 := Lib.hid h2
  go_wp2
  go_ret
  exact ⟨rfl, h2.out⟩
set_option maxRecDepth 100000 in
theorem open2_any (h : Solo H w1 w b S) (hI : S.Inv) (hS : S.Small j) (hj : j ≤ 4194300) (hp : Bx w p (.pointer (some ⟨b, 0, none⟩))) :
    Calls Tryz.prog 41 #[.pointer (some ⟨p, 0, none⟩)] w (SEnd H w1 b (S.createS logN) (.int .i64 (S.createE logN))) := by
  have HC := Lib.hid (h.create hI hS hj logN logN_len)
  have hp : w.cell? ⟨p, 0, none⟩ = _ := hp
  clear h hI hS
  go_enter Tryz.func41, Tryz.ntmps41
  go_wp2_with fail
  refine HC.out.mono ?_
  rintro e w2 ⟨rfl, h2⟩
  have h2 := Lib.hid h2
  go_wp2
  go_ret
  exact ⟨rfl, h2.out⟩
end
theorem ent_of {f : FuncId} {fn : Func} (hf : Tryz.prog.funcs[f]? = some fn) (hn : (fn.name == "runtime.NumGoroutine") = false) (hb : fn.body.isNone = false) : Ent f := fun args w => by
  have hn' : ¬ fn.name = "runtime.NumGoroutine" := by simpa using hn
  have hb' : fn.body ≠ none := fun h => by rw [h] at hb; cases hb
  simp [callFunc, go_sem, hf, hn', hb']
theorem ent_append1 : Ent 73 := ent_of Tryz.func73 (by kernel_rfl) (by kernel_rfl)
theorem ent_syncs1 : Ent 75 := ent_of Tryz.func75 (by kernel_rfl) (by kernel_rfl)
theorem ent_open1 : Ent 37 := ent_of Tryz.func37 (by kernel_rfl) (by kernel_rfl)
theorem ent_open2 : Ent 41 := ent_of Tryz.func41 (by kernel_rfl) (by kernel_rfl)
theorem ent_names : Ent 39 := ent_of Tryz.func39 (by kernel_rfl) (by kernel_rfl)
set_option maxRecDepth 100000 in
theorem policies_any (p e : Int) (w : World) : Calls Tryz.prog 34 #[.int .i64 p, .int .i64 e] w fun x w' => x = .returned (.bool (if p = 2 then decide (1 ≤ e) else if p = 1 ∨ p = 3 then decide (e = 0) else false)) ∧ w' = w := by
  by_cases h2 : p = 2
  · subst h2
    go_enter Tryz.func34, Tryz.ntmps34
    go_wp2
    go_ret
    exact ⟨by simp, rfl⟩
  · by_cases h1 : p = 1
    · subst h1
      go_enter Tryz.func34, Tryz.ntmps34
      go_wp2
      go_ret
      exact ⟨by simp; rfl, rfl⟩
    · by_cases h3 : p = 3
      · subst h3
        go_enter Tryz.func34, Tryz.ntmps34
        go_wp2
        go_ret
        exact ⟨by simp; rfl, rfl⟩
      · go_enter Tryz.func34, Tryz.ntmps34
        go_wp2
        go_ret
        exact ⟨by simp [h1, h2, h3], rfl⟩
set_option maxRecDepth 100000 in
theorem appendTo_any (b : Nat) (n s : ByteArray) (w : World) : Calls Tryz.prog 42 #[.pointer (some ⟨b, 0, none⟩), .string n, .string s] w fun x w' =>
    ∃ p q r, x = .returned (.func (.func 73) #[] #[.pointer (some ⟨p, 0, none⟩), .pointer (some ⟨q, 0, none⟩), .pointer (some ⟨r, 0, none⟩)]) ∧ Bx w' p (.pointer (some ⟨b, 0, none⟩)) ∧ Bx w' q (.string n) ∧ Bx w' r (.string s) ∧
      (w.heap.size ≤ p ∧ p < w'.heap.size) ∧ (w.heap.size ≤ q ∧ q < w'.heap.size) ∧ (w.heap.size ≤ r ∧ r < w'.heap.size) ∧ Below w.heap.size w w' := by
  go_enter Tryz.func42, Tryz.ntmps42
  go_wp2
  go_ret
  have ba := (Below.refl w.heap.size w).alloc (Nat.le_refl _) (.cells #[.pointer (some ⟨b, 0, none⟩)] 45)
  have bb := ba.alloc (by simp) (.cells #[.string n] 9)
  have bc := bb.alloc (by simp; omega) (.cells #[.string s] 9)
  refine ⟨w.heap.size, w.heap.size + 1, w.heap.size + 1 + 1, rfl, ?_, ?_, ?_, by simp; omega, by simp, by simp; omega, bc⟩
  · exact (World.cell?_alloc_past _ _ _ (by simp; omega)).trans ((World.cell?_alloc_past _ _ _ (by simp)).trans (World.cell?_alloc_at _ _ _ 0 rfl))
  · exact (World.cell?_alloc_past _ _ _ (by simp)).trans (World.cell?_alloc_at _ _ _ 0 (by simp))
  · exact World.cell?_alloc_at _ _ _ 0 (by simp)
set_option maxRecDepth 100000 in
theorem syncs_any (b : Nat) (w : World) : Calls Tryz.prog 44 #[.pointer (some ⟨b, 0, none⟩)] w fun x w' =>
    ∃ p, x = .returned (.func (.func 75) #[] #[.pointer (some ⟨p, 0, none⟩)]) ∧ Bx w' p (.pointer (some ⟨b, 0, none⟩)) ∧ (w.heap.size ≤ p ∧ p < w'.heap.size) ∧ Below w.heap.size w w' := by
  go_enter Tryz.func44, Tryz.ntmps44
  go_wp2
  go_ret
  exact ⟨_, rfl, by show World.cell? _ _ = _; simp, by simp, (Below.refl w.heap.size w).alloc (Nat.le_refl _) _⟩
end Go.Proofs.YtfbjmhipjfjaeaaGreatDoor

namespace Go.Proofs.YtfbjmhipjfjaeaaGreatDoor
open Go.ChangeShapes Go.WideShapes Go.ChangeAt Go.RowKit Go.Maps Pl
set_option linter.unusedVariables false
set_option linter.unusedSimpArgs false
/-- The disk tells a name. -/
def Pl.Dk.hasN (S : Dk) (n : Tx) : Bool := decide (n ∈ keys (if S.down = true then [] else S.names))
set_option maxRecDepth 100000 in
theorem has_any {P : Nat → Prop} {w : World} {b j : Nat} {S : Dk} (h : One P w b S) (hI : S.Inv) (hS : S.Small j) (hj : j ≤ 4194300) (n : Tx) :
    Calls Tryz.prog 35 #[.pointer (some ⟨b, 0, none⟩), .string (str n)] w fun e w' => e = .returned (.bool (S.hasN n)) ∧ Below w.heap.size w w' := by
  obtain ⟨F, d, -⟩ := h
  have HN := Lib.hid (names_any d hI hS (by omega))
  obtain ⟨l, hl⟩ : ∃ l, keys (if S.down = true then [] else S.names) = l := ⟨_, rfl⟩
  have HL := Lib.hid hl
  obtain ⟨B, hB⟩ : ∃ B, S.hasN n = B := ⟨_, rfl⟩
  rw [hB]
  have hfew : l.length ≤ 4194304 := by
    rw [← hl]; unfold keys; rw [List.length_map]
    have := hI.good.few; have := hS.files
    split
    · simp
    · omega
  have HB : Hid (decide (n ∈ l) = B) := Lib.hid (by rw [← hl]; exact hB)
  clear d hI hS hl hB
  go_enter Tryz.func35, Tryz.ntmps35
  go_wp2_with fail
  refine HN.out.mono ?_
  rintro e w2 ⟨v, rfl, z, bl⟩
  rw [HL.out] at z
  have BL := Lib.hid bl
  obtain ⟨ao, cp, hv⟩ := z.shape
  obtain ⟨nn, hnn⟩ : ∃ nn, (textsB l).length = nn := ⟨_, rfl⟩
  rw [hnn] at hv
  rw [textsB_length] at hnn
  subst hv
  have hread : ∀ i x, l[i]? = some x → ∃ g o, ao = some ⟨g, o, none⟩ ∧ w2.cell? ⟨g, o + i, none⟩ = some (.string (str x)) := by
    intro i x hx
    obtain ⟨a2, c2, he, hh⟩ := z.srow
    cases he
    rcases hh with hh | ⟨g, o, rfl, -, hc⟩
    · have := congrArg List.length hh
      rw [textsB_length] at this
      rw [List.eq_nil_of_length_eq_zero this] at hx
      cases hx
    · exact ⟨g, o, rfl, hc i (str x) (by simp [textsB, hx])⟩
  have HR := Lib.hid hread
  have HNN := Lib.hid hnn
  have hnb : nn ≤ 4194304 := by omega
  clear z bl hread hnn hfew
  go_wp2_with fail
  go_loopw [10] (fun i wr => ∃ q : Nat, q ≤ nn ∧ i = .int .i64 q ∧ wr = w2 ∧ Hid (∀ k, k < q → l[k]? ≠ some n)) (fun i _ => nn - (intOf i).toNat)
  case atStart => exact ⟨0, Nat.zero_le _, rfl, rfl, Lib.hid (fun k hk => absurd hk (Nat.not_lt_zero _))⟩
  case round =>
    obtain ⟨q, hq, rfl, rfl, hd⟩ := hrel
    by_cases hql : q < nn
    · obtain ⟨x, hx⟩ : ∃ x, l[q]? = some x := ⟨l[q]'(by rw [HNN.out]; exact hql), List.getElem?_eq_getElem _⟩
      obtain ⟨g, o, rfl, hc⟩ := HR.out q x hx
      have hqI : (q : Int) < (nn : Int) := by omega
      have hq0 : (0 : Int) ≤ (q : Int) := by omega
      by_cases hxn : x = n
      · subst hxn
        have he : ((str x).toList == (str x).toList) = true := by rw [eq_str]; simp
        have hx := Lib.hid hx
        go_wp2
        go_ret
        refine ⟨?_, BL.out⟩
        have : decide (x ∈ l) = true := decide_eq_true (List.mem_iff_getElem?.2 ⟨q, hx.out⟩)
        rw [← HB.out, this]
        rfl
      · have he : ((str x).toList == (str n).toList) = false := by rw [eq_str]; simpa using hxn
        have hx := Lib.hid hx
        go_wp2
        go_roundw
        · exact ⟨q + 1, by omega, by go_num, by trivial, Lib.hid fun k hk => by
            rcases Nat.lt_or_ge k q with h | h
            · exact hd.out k h
            · obtain rfl : k = q := by omega
              rw [hx.out]; intro e; exact hxn (Option.some.inj e)⟩
        · simp only [intOf]; omega
    · obtain rfl : q = nn := by omega
      go_wp2
      go_ret
      refine ⟨?_, BL.out⟩
      have : decide (n ∈ l) = false := decide_eq_false fun hm => by
        obtain ⟨k, hk⟩ := List.mem_iff_getElem?.1 hm
        have : k < l.length := (List.getElem?_eq_some_iff.1 hk).1
        exact hd.out k (by rw [← HNN.out]; exact this) hk
      rw [← HB.out, this]
      rfl
end Go.Proofs.YtfbjmhipjfjaeaaGreatDoor
