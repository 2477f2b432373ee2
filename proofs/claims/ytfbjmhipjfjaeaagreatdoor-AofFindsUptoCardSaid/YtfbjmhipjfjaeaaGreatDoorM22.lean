/- aof: Rewrite. -/
import Derived.Test.YtfbjmhipjfjaeaaGreatDoorM21
namespace Go.Proofs.YtfbjmhipjfjaeaaGreatDoor
open Go.ChangeShapes Go.WideShapes Go.ChangeAt Go.RowKit Go.Maps Pl
set_option linter.unusedVariables false
set_option linter.unusedSimpArgs false
theorem Pl.goL_inv : ∀ (xs : List Stp) {S : Dk}, S.Inv → (goL xs S).1.Inv
  | [], _, h => h
  | x :: r, S, h => by
    unfold goL
    split
    · exact Pl.goL_inv r (x.inv h)
    · exact x.inv h
theorem Pl.goL_small : ∀ {xs : List Stp}, (∀ x ∈ xs, x.ok) → ∀ {S : Dk} {j : Nat}, S.Small j → (goL xs S).1.Small (j + xs.length)
  | [], _, _, _, h => h
  | x :: r, hx, S, j, h => by
    have h1 := Stp.small (hx x (by simp)) h
    unfold goL
    split
    · exact (Pl.goL_small (fun y hy => hx y (by simp [hy])) h1).mono (by simp; omega)
    · exact h1.mono (by simp)
/-- Steps on the disk of a log; the fault lies beside the disk. -/
theorem LW.each2 {P : Nat → Prop} {w w3 : World} {l b : Nat} {a : Addr} {j g cp n : Nat} {S : Dk} {L : Lg} {xs : List Stp} {vs : List Value} {ty : TypeId} (h : LW P w l b a S L) (hb : Below w.heap.size w w3) (hI : S.Inv) (hS : S.Small j) (hj : j ≤ 4194200) (hn : n ≤ 90)
    (hr : w3.heap[g]? = some (.cells vs.toArray ty (0, 0))) (hg : w.heap.size ≤ g) (hx : xs.length = n) (hv : vs.length = n) (hs : ∀ (i : Nat) (x : Stp) (v : Value), xs[i]? = some x → vs[i]? = some v → StepFn (fun k => P k ∧ k < w.heap.size) w3 b x v) :
    Calls Tryz.prog 36 #[.slice (some ⟨g, 0, none⟩) n cp] w3 (fun e w' => ∃ v P', e = .returned v ∧ LW P' w' l b a (goL xs S).1 L ∧ (∀ k, P' k → P k ∨ w.heap.size ≤ k) ∧ Wr (fun k => P k ∨ k = l) w w' ∧ ErrIs P' w w' (goL xs S).2 v ∧ Wr (fun k => P k ∧ k < w.heap.size) w3 w') := by
  refine (each_list (H := fun k => P k ∧ k < w.heap.size) (h.start.below hb) hI hS hj hn hr (fun hk => by omega) hx hv hs).mono ?_
  rintro e w4 ⟨v, P4, rfl, o4, p4, w4r, ev⟩
  obtain ⟨l4, r4, k4⟩ := h.after hb o4 p4 w4r
  refine ⟨v, P4, rfl, l4, k4, r4.mono fun k hk _ => .inl hk, ?_, w4r⟩
  rcases ev with ⟨hc, hv⟩ | ⟨hc, f, hv, hf, h1, h2⟩
  · exact .inl ⟨hc, hv⟩
  · exact .inr ⟨hc, f, hv, hf, Nat.le_trans hb.size h1, h2⟩
theorem ErrIs.below {P : Nat → Prop} {w0 w w' : World} {c : Int} {v : Value} (h : ErrIs P w0 w c v) (hb : Below w.heap.size w w') : ErrIs P w0 w' c v := by
  rcases h with h | ⟨hc, f, hv, hf, h1, h2, h3⟩
  · exact .inl h
  · exact .inr ⟨hc, f, hv, (World.cell?_of_block (hb.block f h2)).trans hf, h1, Nat.lt_of_lt_of_le h2 hb.size, h3⟩
/-- Remove, of a log's disk; an error laid beside it stays. -/
theorem LW.remove {P : Nat → Prop} {w w0 : World} {l b : Nat} {a : Addr} {j : Nat} {S : Dk} {L : Lg} {c : Int} {v : Value} (h : LW P w l b a S L) (hI : S.Inv) (hS : S.Small j) (hj : j ≤ 4194200) (n : Tx) (hn : n.length ≤ 33554432) (ev : ErrIs P w0 w c v) :
    Calls Tryz.prog 38 #[.pointer (some ⟨b, 0, none⟩), .string (str n)] w (fun e w' => e = .returned (.int .i64 (S.appendE n)) ∧ LgEnd P w l b a (S.removeS n) L w' ∧ ErrIs (fun _ => False) w0 w' c v) := by
  refine ((Solo.start h.start).remove hI hS (by omega) n hn).mono ?_
  rintro e w2 ⟨rfl, h2⟩
  refine ⟨rfl, LgEnd.of_each h (Below.refl _ _) h2.1 (fun k hk => hk) h2.2, ?_⟩
  rcases ev with ⟨hc, hv⟩ | ⟨hc, f, hv, hf, h1, h3, h4⟩
  · exact .inl ⟨hc, hv⟩
  · exact .inr ⟨hc, f, hv, (World.cell?_of_block (h2.2.block f h3 fun hk => h4 hk.1)).trans hf, h1, Nat.lt_of_lt_of_le h3 h2.2.size, fun h => h⟩
def headT (n : Nat) : Tx := if n = 0 then [] else [67, 79, 86, 69, 78, 65, 78, 84] ++ fixL n 8
theorem headS_is (n : Nat) : headS n = str (headT n) := by
  unfold headS headT
  split
  · rfl
  · exact str_append [67, 79, 86, 69, 78, 65, 78, 84] (fixL n 8)
theorem headT_length {n : Nat} (h : n ≠ 0) : (headT n).length = 16 := by unfold headT; rw [if_neg h]; simp [fixL_length]
theorem headT_le (n : Nat) : (headT n).length ≤ 16 := by
  unfold headT
  split
  · simp
  · simp [fixL_length]
/-- What Rewrite writes. -/
def Pl.Lg.anew (L : Lg) (body : Tx) : Tx := if L.last = 0 then headT 1 else headT L.last ++ encL L.last body
def Pl.Lg.steps (L : Lg) (body : Tx) : List Stp := [.create tempN, .append tempN (L.anew body), .sync tempN, .rename tempN logN]
def Pl.Lg.rewrite (S : Dk) (L : Lg) (body : Tx) : Dk × Lg × Int :=
  if L.dead = true then (S, L, 262)
  else if (goL (L.steps body) S).2 ≠ 0 then (if (goL (L.steps body) S).1.hasN tempN = true then (goL (L.steps body) S).1.removeS tempN else (goL (L.steps body) S).1, L, (goL (L.steps body) S).2)
  else if (goL (L.steps body) S).1.namesE ≠ 0 then ((goL (L.steps body) S).1.namesS, { L with broken := true }, (goL (L.steps body) S).1.namesE)
  else ((goL (L.steps body) S).1.namesS, { L with size := (L.anew body).length, lasting := L.last }, 0)
theorem Pl.Lg.anew_le (L : Lg) {body : Tx} (hb : body.length ≤ 33554300) : (L.anew body).length ≤ 33554400 := by
  unfold Lg.anew
  have h1 := headT_le 1
  have h2 := headT_le L.last
  split
  · omega
  · rw [List.length_append, encL_length]; omega
theorem four_cases {α : Type} {p : Nat → α → Prop} {x0 x1 x2 x3 : α} (h0 : p 0 x0) (h1 : p 1 x1) (h2 : p 2 x2) (h3 : p 3 x3) : ∀ (i : Nat) (x : α), [x0, x1, x2, x3][i]? = some x → p i x
  | 0, x, h => by cases h; exact h0
  | 1, x, h => by cases h; exact h1
  | 2, x, h => by cases h; exact h2
  | 3, x, h => by cases h; exact h3
  | i + 4, x, h => by simp at h
theorem steps_of4 {H : Nat → Prop} {w : World} {b : Nat} {x0 x1 x2 x3 : Stp} {v0 v1 v2 v3 : Value} (h0 : StepFn H w b x0 v0) (h1 : StepFn H w b x1 v1) (h2 : StepFn H w b x2 v2) (h3 : StepFn H w b x3 v3) :
    ∀ (i : Nat) (x : Stp) (v : Value), [x0, x1, x2, x3][i]? = some x → [v0, v1, v2, v3][i]? = some v → StepFn H w b x v
  | 0, x, v, h, k => by cases h; cases k; exact h0
  | 1, x, v, h, k => by cases h; cases k; exact h1
  | 2, x, v, h, k => by cases h; cases k; exact h2
  | 3, x, v, h, k => by cases h; cases k; exact h3
  | i + 4, x, v, h, k => by simp at h
theorem steps_of1 {H : Nat → Prop} {w : World} {b : Nat} {x0 : Stp} {v0 : Value} (h0 : StepFn H w b x0 v0) :
    ∀ (i : Nat) (x : Stp) (v : Value), [x0][i]? = some x → [v0][i]? = some v → StepFn H w b x v
  | 0, x, v, h, k => by cases h; cases k; exact h0
  | i + 1, x, v, h, k => by simp at h
theorem steps_of2 {H : Nat → Prop} {w : World} {b : Nat} {x0 x1 : Stp} {v0 v1 : Value} (h0 : StepFn H w b x0 v0) (h1 : StepFn H w b x1 v1) :
    ∀ (i : Nat) (x : Stp) (v : Value), [x0, x1][i]? = some x → [v0, v1][i]? = some v → StepFn H w b x v
  | 0, x, v, h, k => by cases h; cases k; exact h0
  | 1, x, v, h, k => by cases h; cases k; exact h1
  | i + 2, x, v, h, k => by simp at h
theorem Pl.Lg.steps_ok (L : Lg) {body : Tx} (hb : body.length ≤ 33554300) : ∀ x ∈ L.steps body, x.ok := by
  intro x hx
  have := L.anew_le hb
  simp only [Lg.steps, List.mem_cons, List.not_mem_nil, or_false] at hx
  rcases hx with rfl | rfl | rfl | rfl
  · exact tempN_len
  · exact ⟨tempN_len, by omega⟩
  · exact tempN_len
  · exact ⟨tempN_len, logN_len⟩
section
variable {P : Nat → Prop} {w : World} {l b : Nat} {a : Addr} {j : Nat} {S : Dk} {L : Lg}
set_option maxRecDepth 100000 in
set_option maxHeartbeats 1600000 in
/-- Rewrite of a log that may write: the text is made, then laid. -/
theorem logRewrite_live (h : LW P w l b a S L) (hI : S.Inv) (hS : S.Small j) (hj : j ≤ 4194000) (hf : L.Fit) (body : Tx) (hb : body.length ≤ 33554300) (hd : L.dead = false) (hF : NumF ∨ (L.rewrite S body).2.2 = 0) :
    Calls Tryz.prog 10 #[.pointer (some ⟨l, 0, none⟩), .string (str body)] w (CEnd P w l b a (L.rewrite S body)) := by
  have hbr := Lg.alive hd
  have hI1 := goL_inv (L.steps body) hI
  have hS1 : (goL (L.steps body) S).1.Small (j + 4) := goL_small (L.steps_ok hb) hS
  have hT := L.anew_le hb
  obtain ⟨rr, hrr⟩ : ∃ rr, L.rewrite S body = rr := ⟨_, rfl⟩
  rw [hrr] at hF ⊢
  unfold Lg.rewrite at hrr
  rw [if_neg (by rw [hd]; decide)] at hrr
  have HR := Lib.hid (ready_any h.log h.sent)
  rw [if_neg (by rw [hd]; decide)] at HR
  have hl1 := hf.last
  obtain ⟨s, hs⟩ : ∃ s, L.anew body = s := ⟨_, rfl⟩
  unfold Lg.steps at hrr hI1 hS1
  rw [hs] at hrr hI1 hS1 hT
  obtain ⟨g, hg⟩ : ∃ g, goL [.create tempN, .append tempN s, .sync tempN, .rename tempN logN] S = g := ⟨_, rfl⟩
  rw [hg] at hrr hI1 hS1
  have HG := Lib.hid hg
  have HRR := Lib.hid hrr
  have HW := Lib.hid h
  have HI := Lib.hid hI
  have HS := Lib.hid hS
  have HI1 := Lib.hid hI1
  have HS1 := Lib.hid hS1
  have hgt : ¬ (1073741824 : Int) < ((str body).size : Int) := by rw [str_size]; omega
  have H1 := Lib.hid fun W => head_any 1 W (by omega)
  have HE := Lib.hid fun hz W => enc_good L.last body hz (by omega) (by omega) W
  have H2 := Lib.hid fun W => head_any L.last W (by omega)
  have h3 : w.cell? ⟨l, 3, none⟩ = some (.int .u64 L.last) := h.log.cell 3
  have HFF := Lib.hid hF
  clear h hI hS hI1 hS1 hrr hg hd hF
  by_cases hz : L.last = 0
  · have hz0 : ¬ (0 : Int) < (L.last : Int) := by omega
    go_enter Tryz.func10, Tryz.ntmps10
    go_wp2_with fail
    refine HR.out.mono ?_
    rintro e w2 ⟨rfl, rfl⟩
    go_wp2_with fail
    refine (H1.out _).mono ?_
    rintro e w3 ⟨rfl, b3⟩
    rw [show headS 1 = str s by rw [← hs, headS_is]; unfold Lg.anew; rw [if_pos hz]]
    have HZ := Lib.hid hz
    clear hz
    have B3 := Lib.hid b3
    have HW3 := Lib.hid (HW.out.below b3)
    have h0 : w3.cell? ⟨l, 0, none⟩ = some (.pointer (some ⟨b, 0, none⟩)) := HW3.out.log.cell 0
    have h33 : w3.cell? ⟨l, 3, none⟩ = some (.int .u64 L.last) := HW3.out.log.cell 3
    clear b3 h3
    go_wp2_with fail
    refine (appendTo_any b _ _ _).mono ?_
    rintro e w4 ⟨p, q, r, rfl, hp, hq, hr, hpl, hql, hrl, b4⟩
    clear hz0
    have BB := Lib.hid (show w3.cell? ⟨w3.heap.size, 0, none⟩ = w3.cell? ⟨w3.heap.size, 0, none⟩ from rfl)
    have HP := Lib.hid (And.intro hp (And.intro hq hr))
    have hbox : Bx w4 w3.heap.size (.pointer (some ⟨b, 0, none⟩)) := (World.cell?_of_block (b4.block _ (by show _ < (w3.heap.push _).size; rw [Array.size_push]; exact Nat.lt_succ_self _))).trans (World.cell?_alloc_at _ _ _ 0 rfl)
    have hs4 : w3.heap.size + 1 ≤ w4.heap.size := by have := b4.size; simp at this; exact this
    have hpl : w3.heap.size ≤ p ∧ p < w4.heap.size := ⟨by have := hpl.1; simp at this; omega, hpl.2⟩
    have hql : w3.heap.size ≤ q ∧ q < w4.heap.size := ⟨by have := hql.1; simp at this; omega, hql.2⟩
    have hrl : w3.heap.size ≤ r ∧ r < w4.heap.size := ⟨by have := hrl.1; simp at this; omega, hrl.2⟩
    have B4 := Lib.hid (((Below.refl w3.heap.size w3).alloc (Nat.le_refl _) (.cells #[.pointer (some ⟨b, 0, none⟩)] 45)).trans (b4.mono (by simp)))
    have hbox := Lib.hid hbox
    have hcb : w4.cell? ⟨w3.heap.size, 0, none⟩ = some (.pointer (some ⟨b, 0, none⟩)) := hbox.out
    clear hp hq hr b4 BB
    go_wp2_with fail
    have b5 := B4.out.alloc B4.out.size (.cells #[.func (.func 50) #[] #[.pointer (some ⟨w3.heap.size, 0, none⟩)], .func (.func 73) #[] #[.pointer (some ⟨p, 0, none⟩), .pointer (some ⟨q, 0, none⟩), .pointer (some ⟨r, 0, none⟩)], .func (.func 51) #[] #[.pointer (some ⟨w3.heap.size, 0, none⟩)], .func (.func 53) #[] #[.pointer (some ⟨w3.heap.size, 0, none⟩)]] 32)
    have hup : ∀ (k : Nat) (o : Obj), k < w4.heap.size → k < (w4.alloc o).heap.size := fun k o hk => by simp; omega
    have hno : ∀ k, w3.heap.size ≤ k → ¬ (P k ∧ k < w3.heap.size) := fun k hk h => by omega
    refine (HW3.out.each2 (n := 4) (xs := [.create tempN, .append tempN s, .sync tempN, .rename tempN logN]) (vs := [.func (.func 50) #[] #[.pointer (some ⟨w3.heap.size, 0, none⟩)], .func (.func 73) #[] #[.pointer (some ⟨p, 0, none⟩), .pointer (some ⟨q, 0, none⟩), .pointer (some ⟨r, 0, none⟩)], .func (.func 51) #[] #[.pointer (some ⟨w3.heap.size, 0, none⟩)], .func (.func 53) #[] #[.pointer (some ⟨w3.heap.size, 0, none⟩)]])
      b5 HI.out HS.out (by omega) (by omega) (alloc_here _ _) B4.out.size rfl rfl
      (steps_of4 (step_rw1 ((World.cell?_alloc_past _ _ _ (show w3.heap.size < w4.heap.size from by omega)).trans hbox.out) (hup _ _ (by omega)) (hno _ (Nat.le_refl _)))
        (step_append tempN_len (by omega) ((World.cell?_alloc_past _ _ _ hpl.2).trans HP.out.1) ((World.cell?_alloc_past _ _ _ hql.2).trans HP.out.2.1) ((World.cell?_alloc_past _ _ _ hrl.2).trans HP.out.2.2) ⟨hup _ _ hpl.2, hno _ hpl.1⟩ ⟨hup _ _ hql.2, hno _ hql.1⟩ ⟨hup _ _ hrl.2, hno _ hrl.1⟩)
        (step_rw2 ((World.cell?_alloc_past _ _ _ (show w3.heap.size < w4.heap.size from by omega)).trans hbox.out) (hup _ _ (by omega)) (hno _ (Nat.le_refl _)))
        (step_rw3 ((World.cell?_alloc_past _ _ _ (show w3.heap.size < w4.heap.size from by omega)).trans hbox.out) (hup _ _ (by omega)) (hno _ (Nat.le_refl _))))).mono ?_
    rintro e w5 ⟨v, P5, rfl, lw5, k5, r5, ev5, x5⟩
    rw [HG.out] at lw5 ev5
    have hbx : w5.cell? ⟨w3.heap.size, 0, none⟩ = some (.pointer (some ⟨b, 0, none⟩)) := (World.cell?_of_block (x5.block _ (hup w3.heap.size _ (by omega)) (hno _ (Nat.le_refl _)))).trans ((World.cell?_alloc_past _ _ _ (show w3.heap.size < w4.heap.size from by omega)).trans hbox.out)
    have LW5 := Lib.hid lw5
    have x5s := Lib.hid (show w4.heap.size < w5.heap.size from by have := x5.size; simp at this; omega)
    have K5 := Lib.hid (And.intro k5 r5)
    have HL5 := Lib.hid (show LgEnd P w3 l b a g.1 L w5 from ⟨P5, lw5, k5, r5⟩)
    have h35 : w5.cell? ⟨l, 3, none⟩ = some (.int .u64 L.last) := lw5.log.cell 3
    clear lw5 k5 r5 x5 b5 hcb hpl hql hrl hs4
    by_cases hc : g.2 = 0
    · rcases ev5 with ⟨-, rfl⟩ | ⟨hx, -⟩
      case inr => exact absurd hc hx
      have b6 := (Below.refl w5.heap.size w5).alloc (Nat.le_refl _) (.cells #[.func (.func 39) #[.pointer (some ⟨b, 0, none⟩)] #[]] 32)
      have HY := Lib.hid (fun W cp (hW : W = w5.alloc (.cells #[.func (.func 39) #[.pointer (some ⟨b, 0, none⟩)] #[]] 32)) => LW5.out.each (w3 := W) (g := w5.heap.size) (cp := cp) (n := 1) (xs := [.names]) (vs := [.func (.func 39) #[.pointer (some ⟨b, 0, none⟩)] #[]]) (hW ▸ b6) HI1.out HS1.out (by omega) (by omega) (hW ▸ alloc_here _ _) (Nat.le_refl _) rfl rfl (steps_of1 (step_names b)))
      go_wp2_with fail
      refine (HY.out _ _ rfl).mono ?_
      rintro e w6 ⟨v, rfl, le6, ev6⟩
      rw [goL1] at le6 ev6
      have LE6 := Lib.hid le6
      have EV6 := Lib.hid ev6
      clear le6 ev6 b6
      go_wp2_with fail
      refine (fails_any LE6.out EV6.out LW5.out.log.lt hbr).mono ?_
      rintro e w7 ⟨rfl, le7, ev7⟩
      have LE7 := Lib.hid le7
      have EV7 := Lib.hid ev7
      clear le7
      by_cases hn : g.1.namesE = 0
      · have hn' : Stp.e .names g.1 = 0 := by simp only [Stp.e]; rw [hn]; rfl
        rcases ev7 with ⟨-, rfl⟩ | ⟨hx, -⟩
        case inr => exact absurd hn' hx
        have le7 := LE7.out
        unfold Lg.failed at le7
        rw [if_pos hn'] at le7
        obtain ⟨P7, lw7, -, -⟩ := id le7
        have h37 : w7.cell? ⟨l, 3, none⟩ = some (.int .u64 L.last) := lw7.log.cell 3
        have h47 : w7.cell? ⟨l, 4, none⟩ = some (.int .u64 L.lasting) := lw7.log.cell 4
        have h57 : w7.cell? ⟨l, 5, none⟩ = some (.int .i64 L.size) := lw7.log.cell 5
        have f47 := lw7.log.free 4
        have f57 := lw7.log.free 5
        have LE7' := Lib.hid le7
        have hn := Lib.hid hn
        have hc := Lib.hid hc
        clear lw7 le7 LE7 EV7 hn'
        go_wp2
        go_ret
        have hrr := HRR.out
        rw [if_neg (by rw [hc.out]; decide), if_neg (by rw [hn.out]; decide)] at hrr
        subst hrr
        exact ⟨rfl, ((((LE7'.out.thenL K5.out.1 K5.out.2).early B3.out).put (L' := { L with size := s.length }) 5 _ (by rw [str_size]; rfl)).put 4 _ rfl)⟩
      · have hn' : Stp.e .names g.1 ≠ 0 := by simp only [Stp.e]; exact fun e => hn (Int.ofNat.inj e)
        have le7 := LE7.out
        unfold Lg.failed at le7
        rw [if_neg hn'] at le7
        obtain ⟨P7, lw7, -, -⟩ := id le7
        have hrr := HRR.out
        rw [if_neg (by rw [hc]; decide), if_pos hn] at hrr
        have HN := Lib.hid (number_is (fun _ => (HFF.out.resolve_right (fun hx => hn' (by rw [← hrr] at hx; exact hx)))) EV7.out lw7.sent lw7.three)
        rcases ev7 with ⟨hx, -⟩ | ⟨-, f, rfl, -⟩
        · exact absurd hx hn'
        have le7 := Lib.hid le7
        have hrr := Lib.hid hrr
        have hn := Lib.hid hn
        have hc := Lib.hid hc
        clear lw7 hn'
        go_wp2_with fail
        refine HN.out.mono ?_
        rintro e w8 ⟨rfl, b8⟩
        go_wp2
        go_ret
        rw [← hrr.out]
        exact ⟨rfl, ((le7.out.thenL K5.out.1 K5.out.2).early B3.out).below b8⟩
    · have hrr := HRR.out
      rw [if_pos hc] at hrr
      have HNF : Hid NumF := Lib.hid (HFF.out.resolve_right (fun hx => hc (by rw [← hrr] at hx; exact hx)))
      have HH := Lib.hid (has_any LW5.out.one HI1.out HS1.out (by omega) tempN)
      have EV5 := Lib.hid ev5
      rcases ev5 with ⟨hx, -⟩ | ⟨-, f, rfl, -⟩
      · exact absurd hx hc
      have hc := Lib.hid hc
      clear HRR
      cases hh : g.1.hasN tempN with
      | true =>
        rw [hh] at HH
        rw [if_pos hh] at hrr
        have hrr := Lib.hid hrr
        clear hh
        go_wp2_with fail
        refine HH.out.mono ?_
        rintro e w6 ⟨rfl, b6⟩
        have hbx6 : w6.cell? ⟨w3.heap.size, 0, none⟩ = some (.pointer (some ⟨b, 0, none⟩)) := (World.cell?_of_block (b6.block w3.heap.size (by
          have h1 := B4.out.size; have h2 := x5s.out; omega))).trans hbx
        have LW6 := Lib.hid (LW5.out.below b6)
        have EV6 := Lib.hid (EV5.out.below b6)
        have B6 := Lib.hid b6
        clear hbx b6
        go_wp2_with fail
        refine (LW6.out.remove HI1.out HS1.out (by omega) tempN tempN_len EV6.out).mono ?_
        rintro e w7 ⟨rfl, le7, ev7⟩
        obtain ⟨P7, lw7, -, -⟩ := id le7
        have HN := Lib.hid (number_is (fun _ => HNF.out) ev7 lw7.sent lw7.three)
        have LE7 := Lib.hid ((((le7.early B6.out).thenL K5.out.1 K5.out.2).early B3.out))
        clear le7 lw7 ev7
        go_wp2_with fail
        refine HN.out.mono ?_
        rintro e w8 ⟨rfl, b8⟩
        go_wp2
        go_ret
        rw [← hrr.out]
        exact ⟨rfl, LE7.out.below b8⟩
      | false =>
        rw [hh] at HH
        rw [if_neg (by rw [hh]; decide)] at hrr
        have hrr := Lib.hid hrr
        clear hh
        go_wp2_with fail
        refine HH.out.mono ?_
        rintro e w6 ⟨rfl, b6⟩
        have HN := Lib.hid (number_is (fun _ => HNF.out) (EV5.out.below b6) (LW5.out.below b6).sent (LW5.out.below b6).three)
        have B6 := Lib.hid b6
        clear hbx b6
        go_wp2_with fail
        refine HN.out.mono ?_
        rintro e w8 ⟨rfl, b8⟩
        go_wp2
        go_ret
        rw [← hrr.out]
        exact ⟨rfl, (((HL5.out).early B3.out).below B6.out).below b8⟩
  · have hz0 : (0 : Int) < (L.last : Int) := by omega
    go_enter Tryz.func10, Tryz.ntmps10
    go_wp2_with fail
    refine HR.out.mono ?_
    rintro e w2 ⟨rfl, rfl⟩
    go_wp2_with fail
    refine (H1.out _).mono ?_
    rintro e wa ⟨rfl, ba⟩
    have h3a : wa.cell? ⟨l, 3, none⟩ = some (.int .u64 L.last) := (HW.out.below ba).log.cell 3
    have BA := Lib.hid ba
    clear ba
    go_wp2_with fail
    refine (HE.out hz _).mono ?_
    rintro e wb ⟨rfl, bb⟩
    have BB := Lib.hid (BA.out.trans (bb.mono BA.out.size))
    have h3b : wb.cell? ⟨l, 3, none⟩ = some (.int .u64 L.last) := (HW.out.below BB.out).log.cell 3
    clear bb h3a
    go_wp2_with fail
    refine (H2.out _).mono ?_
    rintro e w3 ⟨rfl, bc⟩
    have b3 := BB.out.trans (bc.mono BB.out.size)
    have hsum : headS L.last ++ str (encL L.last body) = str s := by rw [← hs, headS_is]; unfold Lg.anew; rw [if_neg hz]; exact str_append _ _
    have hcat : ¬ IntKind.i64.max < (((headS L.last).size : Int) + ((str (encL L.last body)).size : Int)) := by
      have h1 : (headS L.last).size + (str (encL L.last body)).size = s.length := by rw [← ByteArray.size_append, hsum, str_size]
      have h2 : IntKind.i64.max = 9223372036854775807 := rfl
      omega
    have hcat2 : ¬ (9223372036854775807 : Int) < (((headS L.last).size : Int) + ((str (encL L.last body)).size : Int)) := hcat
    clear bc h3b
    have B3 := Lib.hid b3
    have HW3 := Lib.hid (HW.out.below b3)
    have h0 : w3.cell? ⟨l, 0, none⟩ = some (.pointer (some ⟨b, 0, none⟩)) := HW3.out.log.cell 0
    have h33 : w3.cell? ⟨l, 3, none⟩ = some (.int .u64 L.last) := HW3.out.log.cell 3
    clear b3 h3
    go_wp2_with fail
    refine (appendTo_any b _ _ _).mono ?_
    rintro e w4 ⟨p, q, r, rfl, hp, hq, hr, hpl, hql, hrl, b4⟩
    clear hz0
    have BB := Lib.hid (show w3.cell? ⟨w3.heap.size, 0, none⟩ = w3.cell? ⟨w3.heap.size, 0, none⟩ from rfl)
    have HP := Lib.hid (And.intro hp (And.intro hq hr))
    have hbox : Bx w4 w3.heap.size (.pointer (some ⟨b, 0, none⟩)) := (World.cell?_of_block (b4.block _ (by show _ < (w3.heap.push _).size; rw [Array.size_push]; exact Nat.lt_succ_self _))).trans (World.cell?_alloc_at _ _ _ 0 rfl)
    have hs4 : w3.heap.size + 1 ≤ w4.heap.size := by have := b4.size; simp at this; exact this
    have hpl : w3.heap.size ≤ p ∧ p < w4.heap.size := ⟨by have := hpl.1; simp at this; omega, hpl.2⟩
    have hql : w3.heap.size ≤ q ∧ q < w4.heap.size := ⟨by have := hql.1; simp at this; omega, hql.2⟩
    have hrl : w3.heap.size ≤ r ∧ r < w4.heap.size := ⟨by have := hrl.1; simp at this; omega, hrl.2⟩
    have B4 := Lib.hid (((Below.refl w3.heap.size w3).alloc (Nat.le_refl _) (.cells #[.pointer (some ⟨b, 0, none⟩)] 45)).trans (b4.mono (by simp)))
    have hbox := Lib.hid hbox
    have hcb : w4.cell? ⟨w3.heap.size, 0, none⟩ = some (.pointer (some ⟨b, 0, none⟩)) := hbox.out
    clear hp hq hr b4 BB
    go_wp2_with fail
    have b5 := B4.out.alloc B4.out.size (.cells #[.func (.func 50) #[] #[.pointer (some ⟨w3.heap.size, 0, none⟩)], .func (.func 73) #[] #[.pointer (some ⟨p, 0, none⟩), .pointer (some ⟨q, 0, none⟩), .pointer (some ⟨r, 0, none⟩)], .func (.func 51) #[] #[.pointer (some ⟨w3.heap.size, 0, none⟩)], .func (.func 53) #[] #[.pointer (some ⟨w3.heap.size, 0, none⟩)]] 32)
    have hup : ∀ (k : Nat) (o : Obj), k < w4.heap.size → k < (w4.alloc o).heap.size := fun k o hk => by simp; omega
    have hno : ∀ k, w3.heap.size ≤ k → ¬ (P k ∧ k < w3.heap.size) := fun k hk h => by omega
    refine (HW3.out.each2 (n := 4) (xs := [.create tempN, .append tempN s, .sync tempN, .rename tempN logN]) (vs := [.func (.func 50) #[] #[.pointer (some ⟨w3.heap.size, 0, none⟩)], .func (.func 73) #[] #[.pointer (some ⟨p, 0, none⟩), .pointer (some ⟨q, 0, none⟩), .pointer (some ⟨r, 0, none⟩)], .func (.func 51) #[] #[.pointer (some ⟨w3.heap.size, 0, none⟩)], .func (.func 53) #[] #[.pointer (some ⟨w3.heap.size, 0, none⟩)]])
      b5 HI.out HS.out (by omega) (by omega) (alloc_here _ _) B4.out.size rfl rfl
      (steps_of4 (step_rw1 ((World.cell?_alloc_past _ _ _ (show w3.heap.size < w4.heap.size from by omega)).trans hbox.out) (hup _ _ (by omega)) (hno _ (Nat.le_refl _)))
        (step_append tempN_len (by omega) ((World.cell?_alloc_past _ _ _ hpl.2).trans HP.out.1) ((World.cell?_alloc_past _ _ _ hql.2).trans HP.out.2.1) ((World.cell?_alloc_past _ _ _ hrl.2).trans HP.out.2.2) ⟨hup _ _ hpl.2, hno _ hpl.1⟩ ⟨hup _ _ hql.2, hno _ hql.1⟩ ⟨hup _ _ hrl.2, hno _ hrl.1⟩)
        (step_rw2 ((World.cell?_alloc_past _ _ _ (show w3.heap.size < w4.heap.size from by omega)).trans hbox.out) (hup _ _ (by omega)) (hno _ (Nat.le_refl _)))
        (step_rw3 ((World.cell?_alloc_past _ _ _ (show w3.heap.size < w4.heap.size from by omega)).trans hbox.out) (hup _ _ (by omega)) (hno _ (Nat.le_refl _))))).mono ?_
    rintro e w5 ⟨v, P5, rfl, lw5, k5, r5, ev5, x5⟩
    rw [HG.out] at lw5 ev5
    have hbx : w5.cell? ⟨w3.heap.size, 0, none⟩ = some (.pointer (some ⟨b, 0, none⟩)) := (World.cell?_of_block (x5.block _ (hup w3.heap.size _ (by omega)) (hno _ (Nat.le_refl _)))).trans ((World.cell?_alloc_past _ _ _ (show w3.heap.size < w4.heap.size from by omega)).trans hbox.out)
    have LW5 := Lib.hid lw5
    have x5s := Lib.hid (show w4.heap.size < w5.heap.size from by have := x5.size; simp at this; omega)
    have K5 := Lib.hid (And.intro k5 r5)
    have HL5 := Lib.hid (show LgEnd P w3 l b a g.1 L w5 from ⟨P5, lw5, k5, r5⟩)
    have h35 : w5.cell? ⟨l, 3, none⟩ = some (.int .u64 L.last) := lw5.log.cell 3
    clear lw5 k5 r5 x5 b5 hcb hpl hql hrl hs4
    by_cases hc : g.2 = 0
    · rcases ev5 with ⟨-, rfl⟩ | ⟨hx, -⟩
      case inr => exact absurd hc hx
      have b6 := (Below.refl w5.heap.size w5).alloc (Nat.le_refl _) (.cells #[.func (.func 39) #[.pointer (some ⟨b, 0, none⟩)] #[]] 32)
      have HY := Lib.hid (fun W cp (hW : W = w5.alloc (.cells #[.func (.func 39) #[.pointer (some ⟨b, 0, none⟩)] #[]] 32)) => LW5.out.each (w3 := W) (g := w5.heap.size) (cp := cp) (n := 1) (xs := [.names]) (vs := [.func (.func 39) #[.pointer (some ⟨b, 0, none⟩)] #[]]) (hW ▸ b6) HI1.out HS1.out (by omega) (by omega) (hW ▸ alloc_here _ _) (Nat.le_refl _) rfl rfl (steps_of1 (step_names b)))
      go_wp2_with fail
      refine (HY.out _ _ rfl).mono ?_
      rintro e w6 ⟨v, rfl, le6, ev6⟩
      rw [goL1] at le6 ev6
      have LE6 := Lib.hid le6
      have EV6 := Lib.hid ev6
      clear le6 ev6 b6
      go_wp2_with fail
      refine (fails_any LE6.out EV6.out LW5.out.log.lt hbr).mono ?_
      rintro e w7 ⟨rfl, le7, ev7⟩
      have LE7 := Lib.hid le7
      have EV7 := Lib.hid ev7
      clear le7
      by_cases hn : g.1.namesE = 0
      · have hn' : Stp.e .names g.1 = 0 := by simp only [Stp.e]; rw [hn]; rfl
        rcases ev7 with ⟨-, rfl⟩ | ⟨hx, -⟩
        case inr => exact absurd hn' hx
        have le7 := LE7.out
        unfold Lg.failed at le7
        rw [if_pos hn'] at le7
        obtain ⟨P7, lw7, -, -⟩ := id le7
        have h37 : w7.cell? ⟨l, 3, none⟩ = some (.int .u64 L.last) := lw7.log.cell 3
        have h47 : w7.cell? ⟨l, 4, none⟩ = some (.int .u64 L.lasting) := lw7.log.cell 4
        have h57 : w7.cell? ⟨l, 5, none⟩ = some (.int .i64 L.size) := lw7.log.cell 5
        have f47 := lw7.log.free 4
        have f57 := lw7.log.free 5
        have LE7' := Lib.hid le7
        have hn := Lib.hid hn
        have hc := Lib.hid hc
        clear lw7 le7 LE7 EV7 hn'
        go_wp2
        go_ret
        have hrr := HRR.out
        rw [if_neg (by rw [hc.out]; decide), if_neg (by rw [hn.out]; decide)] at hrr
        subst hrr
        exact ⟨rfl, ((((LE7'.out.thenL K5.out.1 K5.out.2).early B3.out).put (L' := { L with size := s.length }) 5 _ (by rw [str_size]; rfl)).put 4 _ rfl)⟩
      · have hn' : Stp.e .names g.1 ≠ 0 := by simp only [Stp.e]; exact fun e => hn (Int.ofNat.inj e)
        have le7 := LE7.out
        unfold Lg.failed at le7
        rw [if_neg hn'] at le7
        obtain ⟨P7, lw7, -, -⟩ := id le7
        have hrr := HRR.out
        rw [if_neg (by rw [hc]; decide), if_pos hn] at hrr
        have HN := Lib.hid (number_is (fun _ => (HFF.out.resolve_right (fun hx => hn' (by rw [← hrr] at hx; exact hx)))) EV7.out lw7.sent lw7.three)
        rcases ev7 with ⟨hx, -⟩ | ⟨-, f, rfl, -⟩
        · exact absurd hx hn'
        have le7 := Lib.hid le7
        have hrr := Lib.hid hrr
        have hn := Lib.hid hn
        have hc := Lib.hid hc
        clear lw7 hn'
        go_wp2_with fail
        refine HN.out.mono ?_
        rintro e w8 ⟨rfl, b8⟩
        go_wp2
        go_ret
        rw [← hrr.out]
        exact ⟨rfl, ((le7.out.thenL K5.out.1 K5.out.2).early B3.out).below b8⟩
    · have hrr := HRR.out
      rw [if_pos hc] at hrr
      have HNF : Hid NumF := Lib.hid (HFF.out.resolve_right (fun hx => hc (by rw [← hrr] at hx; exact hx)))
      have HH := Lib.hid (has_any LW5.out.one HI1.out HS1.out (by omega) tempN)
      have EV5 := Lib.hid ev5
      rcases ev5 with ⟨hx, -⟩ | ⟨-, f, rfl, -⟩
      · exact absurd hx hc
      have hc := Lib.hid hc
      clear HRR
      cases hh : g.1.hasN tempN with
      | true =>
        rw [hh] at HH
        rw [if_pos hh] at hrr
        have hrr := Lib.hid hrr
        clear hh
        go_wp2_with fail
        refine HH.out.mono ?_
        rintro e w6 ⟨rfl, b6⟩
        have hbx6 : w6.cell? ⟨w3.heap.size, 0, none⟩ = some (.pointer (some ⟨b, 0, none⟩)) := (World.cell?_of_block (b6.block w3.heap.size (by
          have h1 := B4.out.size; have h2 := x5s.out; omega))).trans hbx
        have LW6 := Lib.hid (LW5.out.below b6)
        have EV6 := Lib.hid (EV5.out.below b6)
        have B6 := Lib.hid b6
        clear hbx b6
        go_wp2_with fail
        refine (LW6.out.remove HI1.out HS1.out (by omega) tempN tempN_len EV6.out).mono ?_
        rintro e w7 ⟨rfl, le7, ev7⟩
        obtain ⟨P7, lw7, -, -⟩ := id le7
        have HN := Lib.hid (number_is (fun _ => HNF.out) ev7 lw7.sent lw7.three)
        have LE7 := Lib.hid ((((le7.early B6.out).thenL K5.out.1 K5.out.2).early B3.out))
        clear le7 lw7 ev7
        go_wp2_with fail
        refine HN.out.mono ?_
        rintro e w8 ⟨rfl, b8⟩
        go_wp2
        go_ret
        rw [← hrr.out]
        exact ⟨rfl, LE7.out.below b8⟩
      | false =>
        rw [hh] at HH
        rw [if_neg (by rw [hh]; decide)] at hrr
        have hrr := Lib.hid hrr
        clear hh
        go_wp2_with fail
        refine HH.out.mono ?_
        rintro e w6 ⟨rfl, b6⟩
        have HN := Lib.hid (number_is (fun _ => HNF.out) (EV5.out.below b6) (LW5.out.below b6).sent (LW5.out.below b6).three)
        have B6 := Lib.hid b6
        clear hbx b6
        go_wp2_with fail
        refine HN.out.mono ?_
        rintro e w8 ⟨rfl, b8⟩
        go_wp2
        go_ret
        rw [← hrr.out]
        exact ⟨rfl, (((HL5.out).early B3.out).below B6.out).below b8⟩
set_option maxRecDepth 100000 in
theorem logRewrite_any (h : LW P w l b a S L) (hI : S.Inv) (hS : S.Small j) (hj : j ≤ 4194000) (hf : L.Fit) (body : Tx) (hb : body.length ≤ 33554300) (hF : NumF ∨ (L.rewrite S body).2.2 = 0) :
    Calls Tryz.prog 10 #[.pointer (some ⟨l, 0, none⟩), .string (str body)] w (CEnd P w l b a (L.rewrite S body)) := by
  cases hd : L.dead with
  | false => exact logRewrite_live h hI hS hj hf body hb hd hF
  | true =>
    obtain ⟨rr, hrr⟩ : ∃ rr, L.rewrite S body = rr := ⟨_, rfl⟩
    rw [hrr]
    unfold Lg.rewrite at hrr
    rw [if_pos hd] at hrr
    have HRR := Lib.hid hrr
    have HR := Lib.hid (ready_any h.log h.sent)
    rw [if_pos hd] at HR
    have HN := Lib.hid (number_broken h.sent h.three)
    have HW := Lib.hid h
    clear h hd hrr hI hS hF
    go_enter Tryz.func10, Tryz.ntmps10
    go_wp2_with fail
    refine HR.out.mono ?_
    rintro e w2 ⟨rfl, rfl⟩
    go_wp2_with fail
    refine HN.out.mono ?_
    rintro e w3 ⟨rfl, b3⟩
    go_wp2
    go_ret
    rw [← HRR.out]
    exact ⟨rfl, (LgEnd.refl HW.out).below b3⟩
end
end Go.Proofs.YtfbjmhipjfjaeaaGreatDoor
