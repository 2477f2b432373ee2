/- aof: Open, of a disk that refuses nothing. -/
import Derived.Test.YtfbjmhipjfjaeaaGreatDoorM24
namespace Go.Proofs.YtfbjmhipjfjaeaaGreatDoor
open Go.ChangeShapes Go.WideShapes Go.ChangeAt Go.RowKit Go.Maps Pl
set_option linter.unusedVariables false
set_option linter.unusedSimpArgs false
theorem Texts.wr {base : Nat} {w w' : World} {v : Value} {bs : List Tx} {K : Nat → Prop} (h : Texts w base v bs) (hw : Wr K w w') (hK : ∀ k, K k → k < base) : Texts w' base v bs := by
  refine ⟨h.1, h.2.imp id ?_⟩
  rintro ⟨g, cap, cur, h1, h2, h3, r⟩
  exact ⟨g, cap, cur, h1, h2, (hw.block g (Array.getElem?_eq_some_iff.1 h3).1 fun hk => by have := hK g hk; omega).trans h3, r⟩
theorem Texts.below {base : Nat} {w w' : World} {v : Value} {bs : List Tx} (h : Texts w base v bs) (hb : Below w.heap.size w w') : Texts w' base v bs := h.wr (K := fun _ => False) (Wr.of_below hb) (fun _ h => h.elim)
/-- A disk, no log yet. -/
structure DW (P : Nat → Prop) (w : World) (b : Nat) (a : Addr) (S : Dk) : Prop where
  one : One P w b S
  sent : Sent w a
  n1 : ∀ k, P k → 3 ≤ k
  three : 3 ≤ w.heap.size
theorem DW.bounded {P : Nat → Prop} {w : World} {b : Nat} {a : Addr} {S : Dk} (h : DW P w b a S) : DW (fun k => P k ∧ k < w.heap.size) w b a S := ⟨h.one.bounded, h.sent, fun k hk => h.n1 k hk.1, h.three⟩
theorem DW.below {P : Nat → Prop} {w w' : World} {b : Nat} {a : Addr} {S : Dk} (h : DW P w b a S) (hb : Below w.heap.size w w') : DW P w' b a S :=
  ⟨h.one.below hb, h.sent.kept (K := fun _ => False) (Wr.of_below hb) (by have := h.three; omega) (fun _ _ h => h), h.n1, Nat.le_trans h.three hb.size⟩
/-- Open's cells: its disk, the result. -/
def OpBox (z b : Nat) (W : World) : Prop := W.cell? ⟨z, 0, none⟩ = some (.pointer (some ⟨b, 0, none⟩)) ∧ W.heap[z + 1]? = some (.cells #[.int .i64 0, .int .i64 0, .int .i64 0, .int .u64 0] 26 (0, 0)) ∧ z + 3 ≤ W.heap.size
theorem OpBox.wr {z b : Nat} {W W' : World} {K : Nat → Prop} (h : OpBox z b W) (hw : Wr K W W') (hK : ∀ k, K k → k < z ∨ z + 2 ≤ k) : OpBox z b W' := by
  have h1 := h.2.2
  exact ⟨(World.cell?_of_block (hw.block z (by omega) fun hk => by have := hK _ hk; omega)).trans h.1, (hw.block (z + 1) (by omega) fun hk => by have := hK _ hk; omega).trans h.2.1, Nat.le_trans h1 hw.size⟩
theorem OpBox.below {z b : Nat} {W W' : World} (h : OpBox z b W) (hb : Below W.heap.size W W') : OpBox z b W' := h.wr (K := fun _ => False) (Wr.of_below hb) (fun _ h => h.elim)
def Pl.Lg.fresh (pol every : Int) : Lg := ⟨pol, every, 0, 0, 16, false, false⟩
theorem open_start {P : Nat → Prop} {w : World} {b : Nat} {a : Addr} {S : Dk} (h : DW P w b a S) (hPb : ∀ k, P k → k < w.heap.size) (pol every : Int) (t1 : TypeId) :
    LW P (((w.alloc (.cells #[.pointer (some ⟨b, 0, none⟩)] t1)).alloc (.cells #[.int .i64 0, .int .i64 0, .int .i64 0, .int .u64 0] 26)).alloc (.cells ((Lg.fresh pol every).cells b) 71)) (w.heap.size + 2) b a S (Lg.fresh pol every) ∧
    OpBox w.heap.size b (((w.alloc (.cells #[.pointer (some ⟨b, 0, none⟩)] t1)).alloc (.cells #[.int .i64 0, .int .i64 0, .int .i64 0, .int .u64 0] 26)).alloc (.cells ((Lg.fresh pol every).cells b) 71)) ∧
    Below w.heap.size w (((w.alloc (.cells #[.pointer (some ⟨b, 0, none⟩)] t1)).alloc (.cells #[.int .i64 0, .int .i64 0, .int .i64 0, .int .u64 0] 26)).alloc (.cells ((Lg.fresh pol every).cells b) 71)) := by
  have e1 : (w.alloc (.cells #[.pointer (some ⟨b, 0, none⟩)] t1)).heap.size = w.heap.size + 1 := by simp
  have e2 : ((w.alloc (.cells #[.pointer (some ⟨b, 0, none⟩)] t1)).alloc (.cells #[.int .i64 0, .int .i64 0, .int .i64 0, .int .u64 0] 26)).heap.size = w.heap.size + 2 := by simp
  have hb : Below w.heap.size w (((w.alloc (.cells #[.pointer (some ⟨b, 0, none⟩)] t1)).alloc (.cells #[.int .i64 0, .int .i64 0, .int .i64 0, .int .u64 0] 26)).alloc (.cells ((Lg.fresh pol every).cells b) 71)) :=
    (((Below.refl w.heap.size w).alloc (Nat.le_refl _) _).alloc (by simp) _).alloc (by simp; omega) _
  have hd := h.below hb
  have h3 := h.three
  refine ⟨⟨hd.one, ?_, hd.sent, fun hk => by have := hPb _ hk; omega, hd.n1, by omega⟩, ⟨?_, ?_, by simp⟩, hb⟩
  · have := alloc_here ((w.alloc (.cells #[.pointer (some ⟨b, 0, none⟩)] t1)).alloc (.cells #[.int .i64 0, .int .i64 0, .int .i64 0, .int .u64 0] 26)) (.cells ((Lg.fresh pol every).cells b) 71)
    rw [e2] at this
    exact this
  · exact (World.cell?_alloc_past _ _ _ (show w.heap.size < _ by rw [e2]; omega)).trans ((World.cell?_alloc_past _ _ _ (show w.heap.size < _ by rw [e1]; omega)).trans (World.cell?_alloc_at _ _ _ 0 rfl))
  · have := alloc_here (w.alloc (.cells #[.pointer (some ⟨b, 0, none⟩)] t1)) (.cells #[.int .i64 0, .int .i64 0, .int .i64 0, .int .u64 0] 26)
    rw [e1] at this
    exact (Below.heap_alloc _ _ _ (by rw [e2]; omega)).trans this
/-- The steps of Open. -/
def Pl.clean (S : Dk) : Dk × Int := if S.hasN tempN = true then goL [.remove tempN, .names] S else (S, 0)
def Pl.makeNew (S : Dk) : Dk × Int := goL [.create logN, .append logN (headT 1), .sync logN, .names] S
/-- What Open finds: where the disk ends, the bodies, what was cut off, the log's bytes and its last number. -/
inductive Opn (S : Dk) : Dk × Int → List Tx → Int → Int → Nat → Prop
  | create : S.hasN logN = false → Opn S (makeNew S) [] 0 16 0
  | short (s : Tx) : S.hasN logN = true → S.askE logN = 0 → S.readT logN = s → s.length < 16 → (headT 1).take s.length = s → Opn S (rdShort S) [] s.length 16 0
  | long (s x : Tx) (f pos : Nat) (bs : List Tx) (torn : Bool) : S.hasN logN = true → S.askE logN = 0 → S.readT logN = s → LogTx s f bs x pos torn → Opn S (rdLong S s.length pos torn) bs ((x.length : Int) - pos) ((16 + pos : Nat) : Int) (f - 1 + bs.length)
def OpenOk (P : Nat → Prop) (w : World) (b : Nat) (a : Addr) (S : Dk) (L : Lg) (bs : List Tx) (cut : Int) (e : Ending) (w' : World) : Prop :=
  ∃ l bv base P', e = .returned (.tuple #[.pointer (some ⟨l, 0, none⟩), bv, .agg #[.int .i64 bs.length, .int .i64 L.size, .int .i64 cut, .int .u64 L.last], .int .i64 0]) ∧ LW P' w' l b a S L ∧ (∀ k, P' k → P k ∨ w.heap.size ≤ k) ∧ Wr P w w' ∧ Texts w' base bv bs ∧ w.heap.size ≤ base ∧ w.heap.size ≤ l
def Fnd (w : World) (g : Nat) (a b c d : Value) : Prop := w.heap[g]? = some (.cells #[a, b, c, d] 26 (0, 0))
theorem Fnd.set {w : World} {g : Nat} {a b c d : Value} (h : Fnd w g a b c d) (x y z u : Value) : Fnd ((((w.setCell ⟨g, 0, none⟩ x).setCell ⟨g, 1, none⟩ y).setCell ⟨g, 2, none⟩ z).setCell ⟨g, 3, none⟩ u) g x y z u := by
  have h : w.heap[g]? = some (.cells #[a, b, c, d] 26 (0, 0)) := h
  unfold Fnd
  simp [World.setCell, Array.getElem?_modify, h]
theorem foundInfo : (Tryz.prog.info? 26).map (·.size) = some 4 := by kernel_rfl
theorem open_end {W : World} {a b c d : Value} {tmps : Array Value} {n p u v x : Nat} {fn : Func} (hr : fn.results = #[.tmp u, .tmp v, .cell p 26, .tmp x]) (hp : tmps.getD p undef = .pointer (some ⟨n, 0, none⟩)) (hg : Fnd W n a b c d) :
    (results fn tmps).run Tryz.prog W = .ok (.tuple #[tmps.getD u undef, tmps.getD v undef, .agg #[a, b, c, d], tmps.getD x undef]) W := by
  have hl : (loadVar 26 ⟨n, 0, none⟩).run Tryz.prog W = .ok (.agg #[a, b, c, d]) W := run_loadVar_row W n _ _ _ _ _ hg Tryz.underlying26 rfl foundInfo
  have hp' : tmps[p]?.getD undef = .pointer (some ⟨n, 0, none⟩) := by simpa using hp
  simp [results, hr, hp', asAddr, hl]
section
variable {P : Nat → Prop} {w : World} {b : Nat} {a : Addr} {j : Nat} {S : Dk}
set_option maxRecDepth 100000 in
set_option maxHeartbeats 8000000 in
theorem open_any0 {pol every cut size : Int} {R : Dk × Int} {bs : List Tx} {last : Nat} (h : DW P w b a S) (hPb : ∀ k, P k → k < w.heap.size) (hI : S.Inv) (hS : S.Small j) (hj : j ≤ 4193000)
    (hp : (if pol = 2 then decide (1 ≤ every) else if pol = 1 ∨ pol = 3 then decide (every = 0) else false) = true) (h1 : (clean S).2 = 0) (ho : Opn (clean S).1 R bs cut size last) (hR : R.2 = 0) :
    Calls Tryz.prog 7 #[.pointer (some ⟨b, 0, none⟩), .int .i64 pol, .int .i64 every] w (OpenOk P w b a R.1 ⟨pol, every, last, last, size, false, false⟩ bs cut) := by
  have HPol := Lib.hid (policies_any pol every)
  rw [hp] at HPol
  have HHas := Lib.hid (fun l W (hW : LW P W l b a S (Lg.fresh pol every)) => has_any hW.one hI hS (by omega) tempN)
  have HSt := Lib.hid (fun t => open_start h hPb pol every t)
  have HI := Lib.hid hI
  have HS := Lib.hid hS
  obtain ⟨C1, hC1⟩ : ∃ C1, clean S = C1 := ⟨_, rfl⟩
  rw [hC1] at h1 ho
  have HC1 := Lib.hid hC1
  have HO := Lib.hid ho
  have HR := Lib.hid hR
  have h3 := h.three
  clear h hI hS hp hC1 ho hR
  go_enter Tryz.func7, Tryz.ntmps7
  go_wp2_with fail
  refine (HPol.out _).mono ?_
  rintro e w1 ⟨rfl, rfl⟩
  go_wp2_with fail
  refine (HHas.out _ _ (HSt.out _).1).mono ?_
  rintro e w2 ⟨rfl, b2⟩
  have LW2 : Hid (LW P w2 (w.heap.size + 1 + 1) b a S (Lg.fresh pol every)) := Lib.hid ((HSt.out _).1.below b2)
  have OB2 := Lib.hid ((HSt.out _).2.1.below b2)
  have B2 := Lib.hid ((HSt.out _).2.2.trans (b2.mono (HSt.out _).2.2.size))
  have hz2 := OB2.out.2.2
  have ho2 := OB2.out.1
  have hP2 : ∀ k, w.heap.size ≤ k → ¬ (P k ∧ k < w2.heap.size) := fun k hk h => by have := hPb k h.1; omega
  have hK2 : ∀ k, (P k ∧ k < w2.heap.size) → k < w.heap.size ∨ w.heap.size + 2 ≤ k := fun k hk => .inl (hPb k hk.1)
  clear b2 HHas
  obtain ⟨ht, hht⟩ : ∃ ht, S.hasN tempN = ht := ⟨_, rfl⟩
  rw [hht]
  have HHT := Lib.hid hht
  clear hht
  go_upto_if 28 with fail
  go_cut [13] from 29 to 33 (fun v wx => v = .nilIface ∧ LgAt w2.heap.size P w (w.heap.size + 1 + 1) b a C1.1 (Lg.fresh pol every) wx ∧ OpBox w.heap.size b wx ∧ w2.heap.size ≤ wx.heap.size)
  case first =>
    have hc1 := HC1.out
    unfold clean at hc1
    rw [HHT.out] at hc1
    cases ht with
    | true =>
      rw [if_pos rfl] at hc1
      have b3 := (Below.refl w2.heap.size w2).alloc (Nat.le_refl _) (.cells #[.func (.func 37) #[] #[.pointer (some ⟨w.heap.size, 0, none⟩)], .func (.func 39) #[.pointer (some ⟨b, 0, none⟩)] #[]] 32)
      have HEA := Lib.hid (show ∀ cp, Calls Tryz.prog 36 #[.slice (some ⟨w2.heap.size, 0, none⟩) 2 cp] _ _ from fun cp => LW2.out.each2 (cp := cp) (n := 2) (xs := [.remove tempN, .names]) (vs := [.func (.func 37) #[] #[.pointer (some ⟨w.heap.size, 0, none⟩)], .func (.func 39) #[.pointer (some ⟨b, 0, none⟩)] #[]]) b3 HI.out HS.out (by omega) (by omega) (alloc_here _ _) (Nat.le_refl _) rfl rfl
        (steps_of2 (step_remove ((OB2.out.below b3).1) (by simp; omega) (hP2 _ (Nat.le_refl _))) (step_names b)))
      rw [hc1] at HEA
      go_wp2_with fail
      refine (HEA.out _).mono ?_
      rintro e w9 ⟨v, P9, rfl, lw9, k9, r9, ev9, x9⟩
      rcases ev9 with ⟨-, rfl⟩ | ⟨hx, -⟩
      case inr => exact absurd h1 hx
      have KEY := Lib.hid (And.intro (show LgAt w2.heap.size P w (w.heap.size + 1 + 1) b a C1.1 (Lg.fresh pol every) w9 from ⟨P9, lw9, k9, (Wr.of_below B2.out).trans r9 fun k hk => .inl hk⟩) (And.intro ((OB2.out.below b3).wr x9 hK2) r9.size))
      clear lw9 k9 r9 x9 b3
      go_wp2_with fail
      go_meet
      exact ⟨rfl, KEY.out⟩
    | false =>
      rw [if_neg (by decide)] at hc1
      go_wp2_with fail
      go_meet
      subst hc1
      exact ⟨rfl, ⟨P, LW2.out, fun k hk => .inl hk, Wr.of_below B2.out⟩, OB2.out, Nat.le_refl _⟩
  case rest =>
    obtain ⟨rfl, hle, hob, h23⟩ := hcut
    rename World => w3
    obtain ⟨P3, lw3, k3, r3⟩ := hle
    have LW3 := Lib.hid lw3
    have K3 := Lib.hid (And.intro k3 r3)
    have OB3 := Lib.hid hob
    have ho3 := hob.1
    have hz3 := hob.2.2
    have HI1 : Hid C1.1.Inv := Lib.hid (by
      rw [← HC1.out]; unfold clean
      split
      · exact goL_inv _ HI.out
      · exact HI.out)
    have HS1 : Hid (C1.1.Small (j + 2)) := Lib.hid (by
      rw [← HC1.out]; unfold clean
      split
      · refine goL_small (xs := [.remove tempN, .names]) (fun x hx => ?_) HS.out
        simp only [List.mem_cons, List.not_mem_nil, or_false] at hx
        rcases hx with rfl | rfl
        · exact tempN_len
        · trivial
      · exact HS.out.mono (by omega))
    have HHas := Lib.hid (has_any lw3.one HI1.out HS1.out (by omega) logN)
    clear lw3 k3 r3 hob ho2 HSt HHT
    go_upto_if 35 with fail
    go_cut [11, 12, 13] from 36 to 53 (fun v11 v12 v13 wx => v12 = .int .i64 cut ∧ v13 = .nilIface ∧ (∃ base, Texts wx base v11 bs ∧ w3.heap.size ≤ base) ∧ LgAt w2.heap.size P w (w.heap.size + 1 + 1) b a R.1 ⟨pol, every, last, 0, size, false, false⟩ wx ∧ OpBox w.heap.size b wx)
    case first =>
      have ho := HO.out
      have hr0 := HR.out
      have hK3 : ∀ k, (P3 k ∨ k = w.heap.size + 1 + 1) → k < w.heap.size ∨ w.heap.size + 2 ≤ k := fun k hk => hk.elim (fun h => (K3.out.1 k h).elim (fun h => .inl (hPb k h)) (fun h => .inr (by omega))) (fun h => .inr (by omega))
      have h03 : w.heap.size ≤ w3.heap.size := by omega
      have hKP : ∀ k, (P3 k ∨ k = w.heap.size + 1 + 1) → (P k ∨ k = w.heap.size + 1 + 1) ∨ w.heap.size ≤ k := fun k hk => hk.elim (fun h => (K3.out.1 k h).elim (fun h => .inl (.inl h)) (fun h => .inr (by omega))) (fun h => .inl (.inr h))
      clear HO HR
      cases ho with
      | create hn =>
        rw [hn] at HHas
        have HH := Lib.hid fun W => head_any 1 W (by omega)
        have hr0 := Lib.hid hr0
        clear hn
        go_wp2_with fail
        refine HHas.out.mono ?_
        rintro e w4 ⟨rfl, b4⟩
        have B4 := Lib.hid (b4.trans ((show Below w4.heap.size w4 w4.drew from (Below.refl _ _).drew).mono b4.size))
        have OB4' := (OB3.out.below b4).1
        have hh4 := (OB3.out.below b4)
        clear b4 HHas
        go_upto_region 14 with fail
        have LW4 := Lib.hid (LW3.out.below B4.out)
        have OB4 := Lib.hid (OB3.out.below B4.out)
        have h34 := B4.out.size
        have hob4 := OB4.out.2.2
        clear hh4 ho3
        generalize hwd : w4.drew = wd at *
        have hwd := Lib.hid hwd
        have hP4 : ∀ k, (P3 k ∧ k < wd.heap.size) → k < w.heap.size ∨ w.heap.size + 2 ≤ k := fun k hk => hK3 k (.inl hk.1)
        have hZ4 : ¬ (P3 w.heap.size ∧ w.heap.size < wd.heap.size) := fun h => by have := hP4 _ h; omega
        have HBK := Lib.hid (show ∀ W, OpBox w.heap.size b W → OpBox w.heap.size b W ∧ W.cell? ⟨w.heap.size, 0, none⟩ = some (.pointer (some ⟨b, 0, none⟩)) from fun W h => ⟨h, h.1⟩)
        have HEA := Lib.hid (show ∀ (wh wa wb : World) (p q r p2 cp : Nat) (W : World), Below wd.heap.size wd wh → (Bx wa p (.pointer (some ⟨b, 0, none⟩)) ∧ Bx wa q (.string (str logN)) ∧ Bx wa r (.string (headS 1)) ∧ (wh.heap.size ≤ p ∧ p < wa.heap.size) ∧ (wh.heap.size ≤ q ∧ q < wa.heap.size) ∧ (wh.heap.size ≤ r ∧ r < wa.heap.size) ∧ Below wh.heap.size wh wa) →
            (Bx wb p2 (.pointer (some ⟨b, 0, none⟩)) ∧ (wa.heap.size ≤ p2 ∧ p2 < wb.heap.size) ∧ Below wa.heap.size wa wb) →
            W = wb.alloc (.cells #[.func (.func 41) #[] #[.pointer (some ⟨w.heap.size, 0, none⟩)], .func (.func 73) #[] #[.pointer (some ⟨p, 0, none⟩), .pointer (some ⟨q, 0, none⟩), .pointer (some ⟨r, 0, none⟩)], .func (.func 75) #[] #[.pointer (some ⟨p2, 0, none⟩)], .func (.func 39) #[.pointer (some ⟨b, 0, none⟩)] #[]] 32) →
            Calls Tryz.prog 36 #[.slice (some ⟨wb.heap.size, 0, none⟩) 4 cp] W (fun e w' => ∃ v P', e = .returned v ∧ LW P' w' (w.heap.size + 1 + 1) b a (makeNew C1.1).1 (Lg.fresh pol every) ∧ (∀ k, P' k → P3 k ∨ wd.heap.size ≤ k) ∧ Wr (fun k => P3 k ∨ k = w.heap.size + 1 + 1) wd w' ∧ ErrIs P' wd w' (makeNew C1.1).2 v ∧ Wr (fun k => P3 k ∧ k < wd.heap.size) W w') from by
          intro wh wa wb p q r p2 cp W hh hA hB hW
          obtain ⟨hp, hq, hr, hpl, hql, hrl, ba⟩ := hA
          obtain ⟨hp2, hpl2, bb⟩ := hB
          subst hW
          have h0 := hh.size
          have h1 := ba.size
          have h2 := bb.size
          have bha := hh.trans (ba.mono hh.size)
          have bab := bha.trans (bb.mono bha.size)
          have hup : ∀ (k : Nat) (o : Obj), k < wb.heap.size → k < (wb.alloc o).heap.size := fun k o hk => by simp; omega
          have hno : ∀ k, wd.heap.size ≤ k → ¬ (P3 k ∧ k < wd.heap.size) := fun k hk h => by omega
          have mv : ∀ {k : Nat} {v : Value} {o : Obj}, Bx wa k v → k < wa.heap.size → Bx (wb.alloc o) k v := fun {k v o} h hk => (World.cell?_alloc_past _ _ _ (show k < wb.heap.size by omega)).trans ((World.cell?_of_block (bb.block k hk)).trans h)
          have hbx : Bx wa w.heap.size (.pointer (some ⟨b, 0, none⟩)) := (World.cell?_of_block (bha.block w.heap.size (by omega))).trans OB4.out.1
          exact LW4.out.each2 (n := 4) (xs := [.create logN, .append logN (headT 1), .sync logN, .names]) (vs := [_, _, _, _])
            (bab.alloc bab.size _) HI1.out HS1.out (by omega) (by omega) (alloc_here _ _) bab.size rfl rfl
            (steps_of4 (step_create (mv hbx (by omega)) (hup _ _ (by omega)) hZ4)
              (step_append logN_len (Nat.le_trans (headT_le 1) (by decide)) (mv hp hpl.2) (mv hq hql.2) (mv (by rw [headS_is 1] at hr; exact hr) hrl.2) ⟨hup _ _ (by omega), hno _ (by omega)⟩ ⟨hup _ _ (by omega), hno _ (by omega)⟩ ⟨hup _ _ (by omega), hno _ (by omega)⟩)
              (step_sync ((World.cell?_alloc_past _ _ _ hpl2.2).trans hp2) (hup _ _ hpl2.2) (hno _ (by omega)))
              (step_names b)))
        refine wp_region_held_drew (S := (fun W => OpBox w.heap.size b W ∧ W.cell? ⟨w.heap.size, 0, none⟩ = some (.pointer (some ⟨b, 0, none⟩)))) (by kernel_rfl) ?_ (fun hHeld => ?_)
        · rw [hwd.out]; exact HBK.out _ OB4.out
        refine wpAnyH_take (i := 0) (oi := (Go.Oper.mk (some 44) (Go.Op.makeFunc (Go.Fn.func 41) #[] #[Go.Operand.tmp 3]) 32 _ #[] none)) (v := ?_) rfl (by kernel_rfl) (by kernel_rfl) (by kernel_rfl) (fun _ _ _ h => h) (Or.inl ⟨by rfl, ?_⟩) hHeld ?_
        rotate_left
        · intro w hSw; (try dsimp only at hSw); go_simp; (try with_reducible rfl)
        simp only [Act.put, List.setIfInBounds_toArray, List.set_cons_zero, List.set_cons_succ]
        refine wpAnyH_take (i := 1) (oi := (Go.Oper.mk (some 45) (Go.Op.load 45 (Go.Operand.tmp 3)) 45 _ #[] none)) (v := ?_) rfl (by kernel_rfl) (by kernel_rfl) (by kernel_rfl) (fun _ _ _ h => h) (Or.inl ⟨by rfl, ?_⟩) hHeld ?_
        rotate_left
        · intro w hSw; (try dsimp only at hSw); go_simp; (try with_reducible rfl)
        simp only [Act.put, List.setIfInBounds_toArray, List.set_cons_zero, List.set_cons_succ]
        refine wpAnyH_take (i := 4) (oi := (Go.Oper.mk (some 48) (Go.Op.load 45 (Go.Operand.tmp 3)) 45 _ #[] none)) (v := ?_) rfl (by kernel_rfl) (by kernel_rfl) (by kernel_rfl) (fun _ _ _ h => h) (Or.inl ⟨by rfl, ?_⟩) hHeld ?_
        rotate_left
        · intro w hSw; (try dsimp only at hSw); go_simp; (try with_reducible rfl)
        simp only [Act.put, List.setIfInBounds_toArray, List.set_cons_zero, List.set_cons_succ]
        refine wpAnyH_take (i := 6) (oi := (Go.Oper.mk (some 50) (Go.Op.load 45 (Go.Operand.tmp 3)) 45 _ #[] none)) (v := ?_) rfl (by kernel_rfl) (by kernel_rfl) (by kernel_rfl) (fun _ _ _ h => h) (Or.inl ⟨by rfl, ?_⟩) hHeld ?_
        rotate_left
        · intro w hSw; (try dsimp only at hSw); go_simp; (try with_reducible rfl)
        simp only [Act.put, List.setIfInBounds_toArray, List.set_cons_zero, List.set_cons_succ]
        refine wpAnyH_take (i := 7) (oi := (Go.Oper.mk (some 51) (Go.Op.makeFunc (Go.Fn.func 39) #[Go.Operand.tmp 50] #[]) 32 _ #[Go.Edge.mk 6 Go.Ground.data] none)) (v := ?_) rfl (by kernel_rfl) (by kernel_rfl) (by kernel_rfl) (fun _ _ _ h => h) (Or.inl ⟨by rfl, ?_⟩) hHeld ?_
        rotate_left
        · intro w hSw; (try dsimp only at hSw); go_simp; (try with_reducible rfl)
        simp only [Act.put, List.setIfInBounds_toArray, List.set_cons_zero, List.set_cons_succ]
        refine wpAnyH_ready (rs := [2]) (by kernel_rfl) (by simp) ?_
        refine (AllReadyH.cons (o := (Go.Oper.mk (some 46) (Go.Op.call (Go.Call.mk (Go.Callee.value (Go.Operand.func 43)) #[Go.Operand.const (Go.Value.int Go.IntKind.u64 1)] #[24])) 9 _ #[] none)) rfl (fun K hK => ?_) AllReadyH.nil)
        · skip
          go_simp
          (refine (HH.out _).mono ?_); (rintro e wh ⟨rfl, bh⟩); (have HBh := Lib.hid bh); (clear bh)
          go_wp2_with fail
          refine hK.out _ _ ?_ (fun hHeld => ?_)
          · exact HBK.out _ (OpBox.below (W := wd) OB4.out HBh.out)
          clear hK K
          (try simp only [Act.put, List.setIfInBounds_toArray, List.set_cons_zero, List.set_cons_succ])
          refine wpAnyH_ready (rs := [3]) (by kernel_rfl) (by simp) ?_
          refine (AllReadyH.cons (o := (Go.Oper.mk (some 47) (Go.Op.call (Go.Call.mk (Go.Callee.value (Go.Operand.func 42)) #[Go.Operand.tmp 45, Go.Operand.const (Go.Value.string (ByteArray.mk #[99, 111, 118, 101, 110, 97, 110, 116, 46, 97, 111, 102])), Go.Operand.tmp 46] #[45, 9, 9])) 32 _ #[Go.Edge.mk 1 Go.Ground.data, Go.Edge.mk 2 Go.Ground.data, Go.Edge.mk 2 Go.Ground.chain] none)) rfl (fun K hK => ?_) AllReadyH.nil)
          · skip
            go_simp
            (refine (appendTo_any b _ _ _).mono ?_); (rintro e wa ⟨p, q, r, rfl, hp, hq, hr, hpl, hql, hrl, ba⟩); (have HA := Lib.hid (And.intro hp (And.intro hq (And.intro hr (And.intro hpl (And.intro hql (And.intro hrl ba))))))); (clear hp hq hr hpl hql hrl ba)
            go_wp2_with fail
            refine hK.out _ _ ?_ (fun hHeld => ?_)
            · exact HBK.out _ (hHeld.1.below HA.out.2.2.2.2.2.2)
            clear hK K
            (try simp only [Act.put, List.setIfInBounds_toArray, List.set_cons_zero, List.set_cons_succ])
            refine wpAnyH_ready (rs := [5]) (by kernel_rfl) (by simp) ?_
            refine (AllReadyH.cons (o := (Go.Oper.mk (some 49) (Go.Op.call (Go.Call.mk (Go.Callee.value (Go.Operand.func 44)) #[Go.Operand.tmp 48] #[45])) 32 _ #[Go.Edge.mk 4 Go.Ground.data, Go.Edge.mk 3 Go.Ground.chain] none)) rfl (fun K hK => ?_) AllReadyH.nil)
            · skip
              go_simp
              (refine (syncs_any b _).mono ?_); (rintro e wb ⟨p2, rfl, hp2, hpl2, bb⟩); (have HB := Lib.hid (And.intro hp2 (And.intro hpl2 bb))); (clear hp2 hpl2 bb)
              go_wp2_with fail
              refine hK.out _ _ ?_ (fun hHeld => ?_)
              · exact HBK.out _ (hHeld.1.below HB.out.2.2)
              clear hK K
              (try simp only [Act.put, List.setIfInBounds_toArray, List.set_cons_zero, List.set_cons_succ])
              refine wpAnyH_ready (rs := [8]) (by kernel_rfl) (by simp) ?_
              refine (AllReadyH.cons (o := (Go.Oper.mk (some 52) (Go.Op.buildSlice 115 4 #[(0, Go.Operand.tmp 44), (1, Go.Operand.tmp 47), (2, Go.Operand.tmp 49), (3, Go.Operand.tmp 51)]) 115 _ #[Go.Edge.mk 0 Go.Ground.data, Go.Edge.mk 3 Go.Ground.data, Go.Edge.mk 5 Go.Ground.data, Go.Edge.mk 7 Go.Ground.data] none)) rfl (fun K hK => ?_) AllReadyH.nil)
              · skip
                go_simp
                refine hK.out _ _ ?_ (fun hHeld => ?_)
                · exact HBK.out _ (hHeld.1.below ((Below.refl _ _).alloc (Nat.le_refl _) _))
                clear hK K
                (try simp only [Act.put, List.setIfInBounds_toArray, List.set_cons_zero, List.set_cons_succ])
                refine wpAnyH_ready (rs := [9]) (by kernel_rfl) (by simp) ?_
                refine (AllReadyH.cons (o := (Go.Oper.mk (some 53) (Go.Op.call (Go.Call.mk (Go.Callee.value (Go.Operand.func 36)) #[Go.Operand.tmp 52] #[115])) 73 _ #[Go.Edge.mk 8 Go.Ground.data, Go.Edge.mk 5 Go.Ground.chain] none)) rfl (fun K hK => ?_) AllReadyH.nil)
                · skip
                  go_simp
                  (refine (HEA.out wh wa wb p q r p2 _ _ HBh.out HA.out HB.out rfl).mono ?_); (rintro e w9 ⟨v, P9, rfl, lw9, k9, r9, ev9, x9⟩); (rcases ev9 with ⟨-, rfl⟩ | ⟨hx, -⟩; case inr => exact absurd hr0.out hx); (have H9 := Lib.hid (And.intro lw9 (And.intro k9 (And.intro r9 x9)))); (clear lw9 k9 r9 x9)
                  go_wp2_with fail
                  refine hK.out _ _ ?_ (fun hHeld => ?_)
                  · exact HBK.out _ (hHeld.1.wr H9.out.2.2.2 hP4)
                  clear hK K
                  (try simp only [Act.put, List.setIfInBounds_toArray, List.set_cons_zero, List.set_cons_succ])
                  refine wpAnyH_take (i := 10) (oi := (Go.Oper.mk (some 13) (Go.Op.assign (Go.Operand.tmp 53)) 73 _ #[Go.Edge.mk 9 Go.Ground.data, Go.Edge.mk 9 Go.Ground.chain, Go.Edge.mk 0 Go.Ground.phase, Go.Edge.mk 1 Go.Ground.phase, Go.Edge.mk 2 Go.Ground.phase, Go.Edge.mk 3 Go.Ground.phase, Go.Edge.mk 4 Go.Ground.phase, Go.Edge.mk 5 Go.Ground.phase, Go.Edge.mk 6 Go.Ground.phase, Go.Edge.mk 7 Go.Ground.phase, Go.Edge.mk 8 Go.Ground.phase, Go.Edge.mk 9 Go.Ground.phase] none)) (v := ?_) rfl (by kernel_rfl) (by kernel_rfl) (by kernel_rfl) (fun _ _ _ h => h) (Or.inl ⟨by rfl, ?_⟩) hHeld ?_
                  rotate_left
                  · intro w hSw; (try dsimp only at hSw); go_simp; (try with_reducible rfl)
                  simp only [Act.put, List.setIfInBounds_toArray, List.set_cons_zero, List.set_cons_succ]
                  refine wpAnyH_done (by kernel_rfl) ?_ _
                  go_wp2_with fail
                  go_meet
                  have h9 := H9.out
                  refine ⟨rfl, rfl, ⟨w9.heap.size, World.ownsRow_nil _ _ _ _, Nat.le_trans h34 h9.2.2.1.size⟩, ⟨P9, h9.1, fun k hk => (h9.2.1 k hk).elim (K3.out.1 k) (fun h => .inr (by omega)), (K3.out.2.trans (Wr.of_below (F := fun k => P3 k ∨ k = w.heap.size + 1 + 1) B4.out) (fun k hk => hKP k hk)).trans h9.2.2.1 fun k hk => hKP k hk⟩, OB4.out.wr h9.2.2.1 hK3⟩
      | short s hn ha hs hl hp =>
        rw [hn] at HHas
        have HRd := Lib.hid (fun W (hb : Below w3.heap.size w3 W) => read_short (LW3.out.below hb) HI1.out HS1.out (by omega) ha hs hl hp)
        have hr0 := Lib.hid hr0
        clear hn ha hs hp
        go_wp2_with fail
        refine HHas.out.mono ?_
        rintro e w4 ⟨rfl, b4⟩
        have B4 := Lib.hid b4
        clear b4
        go_wp2_with fail
        refine (HRd.out _ B4.out).mono ?_
        rintro e w5 ⟨bv, ev, base, rfl, le5, ev5, tx5, hb5⟩
        rcases ev5 with ⟨-, rfl⟩ | ⟨hx, -⟩
        case inr => exact absurd hr0.out hx
        obtain ⟨P5, lw5, k5, r5⟩ := le5
        have h34 := B4.out.size
        have KEY := Lib.hid (And.intro (show ∃ base, Texts w5 base bv [] ∧ w3.heap.size ≤ base from ⟨base, tx5, Nat.le_trans h34 hb5⟩)
          (And.intro (show LgAt w2.heap.size P w (w.heap.size + 1 + 1) b a (rdShort C1.1).1 ⟨pol, every, 0, 0, 16, false, false⟩ w5 from
            ⟨P5, lw5, fun k hk => (k5 k hk).elim (K3.out.1 k) (fun h => .inr (by omega)), ((K3.out.2.trans (Wr.of_below (F := fun k => P3 k ∨ k = w.heap.size + 1 + 1) B4.out) (fun k hk => hKP k hk)).trans r5 fun k hk => hKP k hk)⟩)
          ((OB3.out.below B4.out).wr r5 hK3)))
        clear lw5 k5 r5 tx5 hb5
        go_wp2_with fail
        go_meet
        exact ⟨rfl, rfl, KEY.out⟩
      | long s x f pos bs torn hn ha hs hx =>
        rw [hn] at HHas
        have HRd := Lib.hid (fun W (hb : Below w3.heap.size w3 W) => read_long (LW3.out.below hb) HI1.out HS1.out (by omega) ha hs hx)
        have hr0 := Lib.hid hr0
        clear hn ha hs hx
        go_wp2_with fail
        refine HHas.out.mono ?_
        rintro e w4 ⟨rfl, b4⟩
        have B4 := Lib.hid b4
        clear b4
        go_wp2_with fail
        refine (HRd.out _ B4.out).mono ?_
        rintro e w5 ⟨bv, ev, base, rfl, le5, ev5, tx5, hb5⟩
        rcases ev5 with ⟨-, rfl⟩ | ⟨hx, -⟩
        case inr => exact absurd hr0.out hx
        obtain ⟨P5, lw5, k5, r5⟩ := le5
        have h34 := B4.out.size
        have KEY := Lib.hid (And.intro (show ∃ base, Texts w5 base bv bs ∧ w3.heap.size ≤ base from ⟨base, tx5, Nat.le_trans h34 hb5⟩)
          (And.intro (show LgAt w2.heap.size P w (w.heap.size + 1 + 1) b a (rdLong C1.1 s.length pos torn).1 ⟨pol, every, f - 1 + bs.length, 0, ((16 + pos : Nat) : Int), false, false⟩ w5 from
            ⟨P5, lw5, fun k hk => (k5 k hk).elim (K3.out.1 k) (fun h => .inr (by omega)), ((K3.out.2.trans (Wr.of_below (F := fun k => P3 k ∨ k = w.heap.size + 1 + 1) B4.out) (fun k hk => hKP k hk)).trans r5 fun k hk => hKP k hk)⟩)
          ((OB3.out.below B4.out).wr r5 hK3)))
        clear lw5 k5 r5 tx5 hb5
        go_wp2_with fail
        go_meet
        exact ⟨rfl, rfl, KEY.out⟩
    case rest =>
      obtain ⟨rfl, rfl, ⟨base, htx, hbase⟩, hle, hob⟩ := hcut
      rename World => w6
      obtain ⟨ao, cp, rfl⟩ : ∃ ao cp, u11 = .slice ao bs.length cp := by
        rcases htx.2 with ⟨h1, h2⟩ | ⟨g, cap, cur, h1, _⟩
        · exact ⟨none, 0, by rw [h1, h2]⟩
        · exact ⟨_, _, h1⟩
      obtain ⟨P6, lw6, k6, r6⟩ := hle
      have h36 : w6.cell? ⟨w.heap.size + 1 + 1, 3, none⟩ = some (.int .u64 last) := lw6.log.cell 3
      have h46 : w6.cell? ⟨w.heap.size + 1 + 1, 4, none⟩ = some (.int .u64 0) := lw6.log.cell 4
      have f46 := lw6.log.free 4
      have LW6 := Lib.hid lw6
      have K6 := Lib.hid (And.intro k6 r6)
      have TX := Lib.hid htx
      have OB6 := Lib.hid hob
      have hz6 := hob.2.2
      clear lw6 k6 r6 htx hob HO HR HHas
      go_upto_region 18 with fail
      have pt := LW6.out.put (L' := ⟨pol, every, last, last, size, false, false⟩) 4 (.int .u64 last) rfl
      have ob7 := OB6.out.wr pt.2 (fun k hk => .inr (by omega))
      have tx7 := TX.out.wr pt.2 (fun k hk => by omega)
      have lw7 := pt.1
      have r67 := K6.out.2.trans pt.2 (fun k hk => .inl (.inr hk))
      clear h36 h46 f46 ho3 pt
      generalize (w6.setCell ⟨w.heap.size + 1 + 1, 4, none⟩ (.int .u64 last)) = w7 at *
      have h37 : w7.cell? ⟨w.heap.size + 1 + 1, 3, none⟩ = some (.int .u64 last) := lw7.log.cell 3
      have h57 : w7.cell? ⟨w.heap.size + 1 + 1, 5, none⟩ = some (.int .i64 size) := lw7.log.cell 5
      have LW7 := Lib.hid (lw7.below ((Below.refl _ _).drew))
      have OB7 := Lib.hid (ob7.below ((Below.refl _ _).drew))
      have TX7 := Lib.hid (tx7.below ((Below.refl _ _).drew))
      have R7 := Lib.hid (r67.trans (Wr.of_below (F := fun k => P k ∨ k = w.heap.size + 1 + 1) ((Below.refl w7.heap.size w7).drew)) (Grew.refl _ _))
      clear lw7 ob7 tx7 r67
      go_still_tail 16, (by kernel_rfl)
      change wpList _ _ _ _ _ w7.drew
      clear h37 h57
      generalize w7.drew = w8 at *
      have hob8 := OB7.out.2.1
      have c0 : w8.cell? ⟨w.heap.size + 1, 0, none⟩ = some (.int .i64 0) := by simp [World.cell?, hob8]
      have c1 : w8.cell? ⟨w.heap.size + 1, 1, none⟩ = some (.int .i64 0) := by simp [World.cell?, hob8]
      have c2 : w8.cell? ⟨w.heap.size + 1, 2, none⟩ = some (.int .i64 0) := by simp [World.cell?, hob8]
      have c3 : w8.cell? ⟨w.heap.size + 1, 3, none⟩ = some (.int .u64 0) := by simp [World.cell?, hob8]
      have cf : ∀ i, w8.frozen? ⟨w.heap.size + 1, i, none⟩ = false := fun i => by simp [World.frozen?, hob8]
      have HF8 := Lib.hid hob8
      clear hob8
      have LW8 := Lib.hid (LW7.out.below (Below.refl _ _))
      go_wp2
      (try simp only [Exit.inBlock, Exit.then])
      refine bodyPost_ret (open_end rfl rfl (Fnd.set (show Fnd w8 (w.heap.size + 1) _ _ _ _ from HF8.out) _ _ _ _)) rfl ?_
      have ws : Wr (fun k => k = w.heap.size + 1) w8 ((((w8.setCell ⟨w.heap.size + 1, 0, none⟩ (.int .i64 bs.length)).setCell ⟨w.heap.size + 1, 1, none⟩ (.int .i64 size)).setCell ⟨w.heap.size + 1, 2, none⟩ (.int .i64 cut)).setCell ⟨w.heap.size + 1, 3, none⟩ (.int .u64 last)) :=
        Wr.setCell (F := fun k => k = w.heap.size + 1) (Wr.setCell (F := fun k => k = w.heap.size + 1) (Wr.setCell (F := fun k => k = w.heap.size + 1) (Wr.setCell (F := fun k => k = w.heap.size + 1) (Wr.refl _ w8) (p := ⟨w.heap.size + 1, 0, none⟩) rfl _) (p := ⟨w.heap.size + 1, 1, none⟩) rfl _) (p := ⟨w.heap.size + 1, 2, none⟩) rfl _) (p := ⟨w.heap.size + 1, 3, none⟩) rfl _
      have hno : ∀ k, P6 k → k ≠ w.heap.size + 1 := fun k hk e => (K6.out.1 k hk).elim (fun h => by have := hPb k h; omega) (fun h => by omega)
      refine ⟨w.heap.size + 1 + 1, .slice ao bs.length cp, base, P6, rfl, ⟨LW8.out.one.kept ws hno, LW8.out.log.kept ws (by omega), LW8.out.sent.kept ws (by have := LW8.out.three; omega) (fun k hk e => by omega), LW8.out.nl, LW8.out.n1, LW8.out.ll⟩, fun k hk => (K6.out.1 k hk).imp id (fun h => by omega), ?_, TX7.out.wr ws (fun k hk => by omega), by omega, by omega⟩
      exact (R7.out.trans ws (fun k hk => .inr (by omega))).mono fun k hk hlt => hk.resolve_right (by omega)
end
end Go.Proofs.YtfbjmhipjfjaeaaGreatDoor
