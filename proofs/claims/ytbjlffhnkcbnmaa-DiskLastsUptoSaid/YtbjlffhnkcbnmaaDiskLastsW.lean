/- The walk of DiskLasts. -/
import Derived.Test.YtbjlffhnkcbnmaaPlay
namespace Go.Proofs.Ytbjlffhnkcbnmaa
open Go.ChangeShapes Go.WideShapes Go.ChangeAt Go.RowKit Go.Maps Pl
set_option linter.unusedVariables false
set_option linter.unusedSimpArgs false

theorem trow_cell {w : World} {a : Option Addr} {n c : Nat} {ts : List Tx} (h : TRow w (.slice a n c) ts) {q : Nat} {t : Tx} (hq : ts[q]? = some t) : ∃ g off, a = some ⟨g, off, none⟩ ∧ g < w.heap.size ∧ w.cell? ⟨g, off + q, none⟩ = some (.string (str t)) := by
  obtain ⟨a', c', e, hh⟩ := h.open
  simp only [Value.slice.injEq] at e
  obtain ⟨rfl, -, -⟩ := e
  rcases hh with h0 | ⟨g, off, h1, h2, h3⟩
  · rw [h0] at hq; simp at hq
  · exact ⟨g, off, h1, h2, h3 q t hq⟩
theorem irow_nil (w : World) (G : Nat → Prop) : IRow w G (.slice none 0 0) [] := ⟨none, 0, rfl, .inl rfl⟩
/-- The names of a disk that is up. -/
theorem Pl.Laid.told {S : Dk} {L : Nm} {W Y : List Tx} (h : Laid S L W Y) : (if S.down = true then [] else S.names) = L ∧ (if S.down = true then [] else S.last) = L := by
  rw [if_neg (by simp [h.down]), if_neg (by simp [h.down])]
  exact ⟨h.names, h.last⟩
/-- The disk and the three rows: the names, what was synced, what was laid. -/
structure Las (H' : Nat → Prop) (wB : World) (n5 n6 n7 n8 b c : Nat) (nv sv wv : Value) (L : Nm) (S : Dk) (wr : World) (S2 : Dk) (W Y : List Tx) : Prop where
  two : Two (fun k => H' k ∨ n8 ≤ k) wr b c S2 S
  g : Wr (fun _ => False) wB wr
  z : ZRow n5 wr nv (textsB (keys L))
  zb : ∀ g, nv.ownBlock = some g → n5 ≤ g ∧ g < n6
  ys : RowC wr (fun k => n6 ≤ k ∧ k < n7) 9 1 sv Y.length (Y.map strV)
  ws : RowC wr (fun k => n7 ≤ k ∧ k < n8) 9 1 wv W.length (W.map strV)
  hh : ∀ k, H' k → wB.heap.size ≤ k ∧ k < n5
  ord : wB.heap.size ≤ n5 ∧ n5 ≤ n6 ∧ n6 ≤ n7 ∧ n7 ≤ n8 ∧ n8 ≤ wr.heap.size
namespace Las
variable {H' : Nat → Prop} {wB : World} {n5 n6 n7 n8 b c : Nat} {nv sv wv : Value} {L : Nm} {S : Dk} {wr w' : World} {S2 S3 : Dk} {W Y : List Tx}
theorem op (h : Las H' wB n5 n6 n7 n8 b c nv sv wv L S wr S2 W Y) {v : Value} {e : Ending} (he : TwoEnd (fun k => H' k ∨ n8 ≤ k) b c S3 S v wr e w') : e = .returned v ∧ Las H' wB n5 n6 n7 n8 b c nv sv wv L S w' S3 W Y := by
  obtain ⟨e1, t, r⟩ := he
  obtain ⟨o1, o2, o3, o4, o5⟩ := h.ord
  have no : ∀ k, n5 ≤ k ∧ k < n8 → ¬ (H' k ∨ n8 ≤ k) := fun k hk hp => hp.elim (fun h2 => by have := (h.hh k h2).2; omega) (fun h2 => by omega)
  exact ⟨e1, t.mono (fun k hk => hk.elim id fun h2 => .inr (by omega)), h.g.trans r (fun k hk => .inr (hk.elim (fun h2 => (h.hh k h2).1) (fun h2 => by omega))),
    h.z.wr r (fun g hg => no g (by have := h.zb g hg; omega)), h.zb, h.ys.kept r (fun k hk => no k (by omega)), h.ws.kept r (fun k hk => no k (by omega)), h.hh, o1, o2, o3, o4, Nat.le_trans o5 r.size⟩
theorem below (h : Las H' wB n5 n6 n7 n8 b c nv sv wv L S wr S2 W Y) (hb : Below wr.heap.size wr w') : Las H' wB n5 n6 n7 n8 b c nv sv wv L S w' S2 W Y := by
  obtain ⟨o1, o2, o3, o4, o5⟩ := h.ord
  have r : Wr (fun _ => False) wr w' := Wr.of_below hb
  exact ⟨h.two.below hb, h.g.trans r (Grew.refl _ _), h.z.wr r (fun _ _ h => h), h.zb, h.ys.kept r (fun _ _ h => h), h.ws.kept r (fun _ _ h => h), h.hh, o1, o2, o3, o4, Nat.le_trans o5 hb.size⟩
theorem setW {gw n cp : Nat} (h : Las H' wB n5 n6 n7 n8 b c nv sv (.slice (some ⟨gw, 0, none⟩) n cp) L S wr S2 W Y) (m : Nat) (t : Tx) : Las H' wB n5 n6 n7 n8 b c nv sv (.slice (some ⟨gw, 0, none⟩) n cp) L S (wr.setCell ⟨gw, m, none⟩ (.string (str t))) S2 (W.set m t) Y := by
  obtain ⟨o1, o2, o3, o4, o5⟩ := h.ord
  have hb := h.ws.2 gw rfl
  have r : Wr (fun k => k = gw) wr (wr.setCell ⟨gw, m, none⟩ (.string (str t))) := Wr.setCell (F := fun k => k = gw) (p := ⟨gw, m, none⟩) (Wr.refl _ wr) rfl _
  have hs : (wr.setCell ⟨gw, m, none⟩ (.string (str t))).heap.size = wr.heap.size := heap_setCell_size _ _ _
  refine ⟨h.two.kept r (fun k hk e => ?_), h.g.trans r (fun k hk => .inr (by rw [hk]; omega)), h.z.wr r (fun g hg e => by have := h.zb g hg; omega), h.zb, h.ys.kept r (fun k hk e => by omega), ?_, h.hh, o1, o2, o3, o4, by rw [hs]; exact o5⟩
  · subst e
    exact hk.elim (fun h2 => by have := (h.hh k h2).2; omega) (fun h2 => by omega)
  · refine ⟨?_, h.ws.2⟩
    obtain ⟨ao, cp', e⟩ := h.ws.shape
    obtain ⟨-, rfl, -⟩ : _ ∧ n = W.length ∧ _ := by simpa using e
    have := (World.ownsRow.stored h.ws.1 m (.string (str t))).1
    rw [List.length_set, List.map_set]
    exact this
theorem setY {gs n cp : Nat} (h : Las H' wB n5 n6 n7 n8 b c nv (.slice (some ⟨gs, 0, none⟩) n cp) wv L S wr S2 W Y) (m : Nat) (t : Tx) : Las H' wB n5 n6 n7 n8 b c nv (.slice (some ⟨gs, 0, none⟩) n cp) wv L S (wr.setCell ⟨gs, m, none⟩ (.string (str t))) S2 W (Y.set m t) := by
  obtain ⟨o1, o2, o3, o4, o5⟩ := h.ord
  have hb := h.ys.2 gs rfl
  have r : Wr (fun k => k = gs) wr (wr.setCell ⟨gs, m, none⟩ (.string (str t))) := Wr.setCell (F := fun k => k = gs) (p := ⟨gs, m, none⟩) (Wr.refl _ wr) rfl _
  have hs : (wr.setCell ⟨gs, m, none⟩ (.string (str t))).heap.size = wr.heap.size := heap_setCell_size _ _ _
  refine ⟨h.two.kept r (fun k hk e => ?_), h.g.trans r (fun k hk => .inr (by rw [hk]; omega)), h.z.wr r (fun g hg e => by have := h.zb g hg; omega), h.zb, ?_, h.ws.kept r (fun k hk e => by omega), h.hh, o1, o2, o3, o4, by rw [hs]; exact o5⟩
  · subst e
    exact hk.elim (fun h2 => by have := (h.hh k h2).2; omega) (fun h2 => by omega)
  · refine ⟨?_, h.ys.2⟩
    obtain ⟨ao, cp', e⟩ := h.ys.shape
    obtain ⟨-, rfl, -⟩ : _ ∧ n = Y.length ∧ _ := by simpa using e
    have := (World.ownsRow.stored h.ys.1 m (.string (str t))).1
    rw [List.length_set, List.map_set]
    exact this
theorem wcell (h : Las H' wB n5 n6 n7 n8 b c nv sv wv L S wr S2 W Y) {m : Nat} {t : Tx} (hm : W[m]? = some t) : ∃ gw cp, wv = .slice (some ⟨gw, 0, none⟩) W.length cp ∧ wr.cell? ⟨gw, m, none⟩ = some (.string (str t)) ∧ (∀ o, wr.frozen? ⟨gw, o, none⟩ = false) := by
  have hl := (List.getElem?_eq_some_iff.1 hm).1
  obtain ⟨g, cp, e, -, -, ⟨cur, hcur⟩, hc⟩ := h.ws.at_ (by omega) (by omega)
  exact ⟨g, cp, e, hc m _ (by simp [hm, strV]), fun o => by simp only [World.frozen?, hcur]; simp⟩
theorem ycell (h : Las H' wB n5 n6 n7 n8 b c nv sv wv L S wr S2 W Y) {m : Nat} {t : Tx} (hm : Y[m]? = some t) : ∃ gs cp, sv = .slice (some ⟨gs, 0, none⟩) Y.length cp ∧ wr.cell? ⟨gs, m, none⟩ = some (.string (str t)) ∧ (∀ o, wr.frozen? ⟨gs, o, none⟩ = false) := by
  have hl := (List.getElem?_eq_some_iff.1 hm).1
  obtain ⟨g, cp, e, -, -, ⟨cur, hcur⟩, hc⟩ := h.ys.at_ (by omega) (by omega)
  exact ⟨g, cp, e, hc m _ (by simp [hm, strV]), fun o => by simp only [World.frozen?, hcur]; simp⟩
end Las
set_option maxRecDepth 100000 in
set_option maxHeartbeats 12800000 in
theorem diskLasts_walk (v : Value) (ds : List Dd) (hds : ∀ a ∈ ds, a.Ok) (hdl : ds.length ≤ 1048576) (vm : Value) (ms : List Dd) (hms : ∀ a ∈ ms, a.Ok) (hml : ms.length ≤ 1048576) (kc : Int) (vb : Value) (bs : List Int) (hbl : bs.length ≤ 4194304)
    (w : World) (hv : DdRow w (fun g => g < w.heap.size) v ds) (hvm : DdRow w (fun g => g < w.heap.size) vm ms) (hvb : IRow w (fun g => g < w.heap.size) vb bs) :
    Calls Try.prog 4 #[v, vm, .agg #[.int .i64 kc, vb]] w fun e w' => e = .returned (.bool true) ∧ Below w.heap.size w w' := by
  obtain ⟨va, vc, rfl⟩ := hv.shape
  obtain ⟨ma, mc, rfl⟩ := hvm.shape
  obtain ⟨ba, bc, rfl⟩ := hvb.shape
  obtain ⟨wB, hwB⟩ : ∃ wB, wB = w.alloc (.cells #[.int .i64 kc, .slice ba bs.length bc] 24) := ⟨_, rfl⟩
  have hbB : Below w.heap.size w wB := by rw [hwB]; exact (Below.refl _ _).alloc (Nat.le_refl _) _
  have hblk : wB.heap[w.heap.size]? = some (.cells #[.int .i64 kc, .slice ba bs.length bc] 24 (0, 0)) := by rw [hwB]; exact heap_alloc_new w _
  have hltB : w.heap.size < wB.heap.size := (Array.getElem?_eq_some_iff.1 hblk).1
  have HV := Lib.hid (hv.kept (G := fun _ => False) (Wr.of_below hbB) (fun _ _ h => h))
  have HVM := Lib.hid (hvm.kept (G := fun _ => False) (Wr.of_below hbB) (fun _ _ h => h))
  have HVB := Lib.hid (hvb.kept (F := fun _ => False) (Wr.of_below hbB) (fun _ _ h => h))
  have HBX := Lib.hid (show ∀ W, Wr (fun _ => False) wB W → W.cell? ⟨w.heap.size, 0, none⟩ = some (.int .i64 kc) ∧ W.cell? ⟨w.heap.size, 1, none⟩ = some (.slice ba bs.length bc) from fun W hW => by
    have h1 := (hW.block w.heap.size hltB (fun h => h)).trans hblk
    exact ⟨by simp [World.cell?, h1], by simp [World.cell?, h1]⟩)
  have HBB := Lib.hid (And.intro hbB hltB)
  have HDS := Lib.hid hds
  have HMS := Lib.hid hms
  clear hv hvm hvb hbB hblk hds hms
  go_enter Try.func4, Try.ntmps4
  go_wp2_with fail
  rw [← hwB]
  clear hwB
  ((refine Calls.mono (new_any wB) ?_); rintro e w2 ⟨b, F, rfl, d2, hF2, b2⟩)
  have HN2 := Lib.hid (And.intro d2 (And.intro hF2 b2))
  clear d2 hF2 b2
  go_wp2_with fail
  ((refine Calls.mono (awake_any w2) ?_); rintro e w3 ⟨rfl, b3⟩)
  have HN3 := Lib.hid (show Dsk w3 b F Dk.new ∧ Below wB.heap.size wB w3 from ⟨HN2.out.1.kept (G := fun _ => False) (Wr.of_below b3) (fun _ _ h => h), HN2.out.2.2.trans (b3.mono HN2.out.2.2.size)⟩)
  clear b3
  have HPl := Lib.hid (play_any HN3.out.1 HN2.out.2.1 HN3.out.2 (.slice va ds.length vc) ds HDS.out hdl (K := fun g => g < w.heap.size) (fun k hk => Nat.lt_trans hk hltB) HV.out)
  go_wp2_with fail
  ((refine Calls.mono HPl.out ?_); rintro e w4 ⟨rfl, c, S, hd4, hI, hS, hN⟩)
  have HD4 := Lib.hid hd4
  have HI := Lib.hid hI
  have HS := Lib.hid hS
  obtain ⟨R, hR, -⟩ := laid_crash hI hN 1099511627776 []
  have HCr := Lib.hid (hd4.crash hI hS (by omega) 1099511627776 (.slice none 0 0) [] (irow_nil w4 (fun _ => False)) (fun _ h => h.elim) (by simp))
  obtain ⟨L, hL⟩ : ∃ L, S.left 1099511627776 = L := ⟨_, rfl⟩
  obtain ⟨S1, hS1⟩ : ∃ S1, S.crashS 1099511627776 [] = S1 := ⟨_, rfl⟩
  have hI1 := hI.crash 1099511627776 []
  have hM1 := hS.crash 1099511627776 []
  rw [hS1] at hI1 hM1 HCr hR
  rw [hL] at hR
  have HI1 := Lib.hid hI1
  have HM1 := Lib.hid hM1
  have HL1 := Lib.hid hR
  have hLl : L.length ≤ 1048576 := by have := hI1.last.few; rw [hR.last] at this; have := hM1.files; omega
  have HLn := Lib.hid (show ∀ p ∈ L, p.1.length ≤ 1048576 from by have := hM1.lst; rw [hR.last] at this; exact this)
  clear hd4 hI hS hN hR hI1 hM1 hL hS1
  go_wp2_with fail
  ((refine Calls.mono HCr.out ?_); rintro e w5 ⟨rfl, hd5⟩)
  have HD5 := Lib.hid hd5
  obtain ⟨H', hT5, hH5⟩ := hd5.at_
  have HT5 := Lib.hid hT5
  have HH5 := Lib.hid hH5
  clear hd5 hT5 hH5
  have HNm := Lib.hid (HT5.out.names HI1.out HM1.out (by omega))
  rw [HL1.out.told.1] at HNm
  go_wp2_with fail
  ((refine Calls.mono HNm.out ?_); rintro e w6 ⟨vn, rfl, z6, b6⟩)
  obtain ⟨na, nc, rfl, -⟩ := (show TRow w6 vn (keys L) from z6.srow).open
  have HKL := Lib.hid (show (keys L).length = L.length from List.length_map _)
  have HZ6 := Lib.hid (And.intro z6 b6)
  have HNR := Lib.hid (fun W (hb : Below w6.heap.size w6 W) => (show TRow W (.slice na (keys L).length nc) (keys L) from SRow.kept z6.srow hb))
  have HT6 := Lib.hid (HT5.out.below b6)
  clear z6 b6
  have hLn : (keys L).length = L.length := HKL.out
  rw [hLn] at HZ6 HNR
  rw [hLn]
  go_wp2_with fail
  go_loopw [9, 10] (fun s i wr => ∃ (q : Nat) (sv : Value), q ≤ L.length ∧ sv = s ∧ i = .int .i64 q ∧ Hid (OTx wr w6.heap.size sv (R.take q)) ∧ Hid (Below w6.heap.size w6 wr)) (fun _ i _ => L.length - (intOf i).toNat)
  case atStart => exact ⟨0, _, Nat.zero_le _, rfl, rfl, by show World.ownsRow _ _ _ _ _ _ _; rw [List.take_zero]; exact World.ownsRow_nil _ _ _ _, Below.refl _ _⟩
  case round =>
    obtain ⟨q, sv, hq, rfl, rfl, hs, hb⟩ := hrel
    obtain ⟨wk, hwk⟩ : ∃ wk, wk = wr := ⟨_, rfl⟩
    subst hwk
    have hsz := hb.out.size
    by_cases hql : q < L.length
    · obtain ⟨p, hp⟩ : ∃ p, L[q]? = some p := ⟨_, List.getElem?_eq_getElem hql⟩
      obtain ⟨r, hr⟩ : ∃ r, R[q]? = some r := ⟨_, List.getElem?_eq_getElem (by rw [HL1.out.lenW]; exact hql)⟩
      obtain ⟨ea, et, en⟩ := HL1.out.read HI1.out hp hr hr
      obtain ⟨gn, off, rfl, -, hcn⟩ := trow_cell (HNR.out wk hb.out) (q := q) (t := p.1) (by simp [keys, hp])
      have hpl := HLn.out p (List.mem_of_getElem? hp)
      have HRd := Lib.hid ((HT6.out.below hb.out).read HI1.out p.1 hpl)
      have HSy := Lib.hid ((HT6.out.below hb.out).synced HI1.out p.1 hpl)
      unfold ReadEnd at HRd
      unfold SyncedEnd at HSy
      rw [et, ea] at HRd
      rw [en, ea] at HSy
      have hrs := str_size r
      have HRt := Lib.hid (show R.take (q + 1) = R.take q ++ [r] from by rw [List.take_add_one, hr]; rfl)
      have HRl := Lib.hid (show (R.take q).length = q from by rw [List.length_take, HL1.out.lenW]; omega)
      have hqI : (q : Int) < (L.length : Int) := by omega
      have hq0 : (0 : Int) ≤ (q : Int) := by omega
      clear hp hr ea et en hpl
      go_wp2_with fail
      ((refine Calls.mono HRd.out ?_); rintro e wa ⟨rfl, rfl⟩)
      go_wp2_with fail
      ((refine Calls.mono HSy.out ?_); rintro e wa ⟨rfl, rfl⟩)
      go_wp2_with (at_builtin; refine wpList_append_text _ rfl (.tmp 78) (.tmp 80) rfl w6.heap.size sv (R.take q).length ((R.take q).map strV) rfl hs.out (.string (str r)) rfl (by simp [Act.eval]) (by rw [HRl.out]; unfold maxLen; omega) (by rw [HRl.out]; omega) hsz ?_; intro v2 wz o2 hB2; have HO := Lib.hid (show OTx wz w6.heap.size v2 (R.take (q + 1)) from by rw [HRt.out]; unfold OTx; rw [List.length_append, List.map_append]; exact o2); have HB := Lib.hid (hB2 w6 _ hb.out (Nat.le_refl _)); clear o2 hB2)
      go_roundw
      case rel => exact ⟨q + 1, _, by omega, rfl, by go_num, HO.out, HB.out⟩
      case measure => simp [intOf]; omega
    · obtain rfl : q = L.length := by omega
      have hsR := hs.out
      rw [show R.take L.length = R from by rw [← HL1.out.lenW, List.take_length]] at hsR
      obtain ⟨sa, sc, rfl, -⟩ := hsR.trow.open
      have HSV := Lib.hid hsR
      have hRl : R.length = L.length := HL1.out.lenW
      rw [hRl] at HSV
      rw [hRl]
      clear hsR hs
      go_wp2_with (at_builtin; refine wpList_append_texts (w0 := wk) rfl (.tmp 82) (.tmp 83) rfl [] R (.slice none 0 0) (.slice sa L.length sc) (by simp [Act.eval]) (by simp [Act.eval]) (World.ownsRow_nil _ _ _ _) HSV.out.trow (Below.refl _ _) (by simp only [List.length_nil]; omega) ?_; intro v8 w8 o8 b8; rw [List.nil_append] at o8; obtain ⟨wa, wc, rfl, -⟩ := o8.trow.open; have H8 := Lib.hid (And.intro o8 b8); clear o8 b8)
      have HLas := Lib.hid (show Las H' wB w5.heap.size w6.heap.size wk.heap.size w8.heap.size b c (.slice na L.length nc) (.slice sa L.length sc) (.slice wa L.length wc) L S w8 S1 R R from by
        have b68 : Below w6.heap.size w6 w8 := hb.out.trans (H8.out.2.mono hb.out.size)
        have hz5 := HZ6.out.2.size
        refine ⟨(HT6.out.below b68).mono fun k hk => .inl hk, (HD5.out.2.trans (Wr.of_below HZ6.out.2) (Grew.refl _ _)).trans (Wr.of_below b68) (Grew.refl _ _), ZRow.wr HZ6.out.1 (F := fun _ => False) (Wr.of_below b68) (fun _ _ h => h), ?_, ?_, ?_, fun k hk => ⟨(HH5.out k hk).1.elim False.elim id, (HH5.out k hk).2⟩, HD5.out.2.size, hz5, hb.out.size, H8.out.2.size, Nat.le_refl _⟩
        · intro g hg
          rcases HZ6.out.1 with ⟨e, _⟩ | ⟨g', cap, cur, e, h1, h2, _⟩
          · rw [e] at hg; simp [Value.ownBlock] at hg
          · rw [e] at hg
            simp [Value.ownBlock] at hg
            subst hg
            exact ⟨h1, (Array.getElem?_eq_some_iff.1 h2).1⟩
        · have hs := HSV.out
          exact (RowC.kept (G := fun _ => False) (show RowC wk (fun k => w6.heap.size ≤ k ∧ k < wk.heap.size) 9 1 (.slice sa L.length sc) R.length (R.map strV) from ⟨owns_low hs (Nat.zero_le _), fun g hg => World.ownsRow.lt hs g hg⟩) (Wr.of_below H8.out.2) (fun _ _ h => h))
        · have hs := H8.out.1
          rw [hRl] at hs
          exact ⟨owns_low hs (Nat.zero_le _), fun g hg => World.ownsRow.lt hs g hg⟩)
      go_wp2_with fail
      go_loopw [16] (fun i wr => ∃ (q : Nat) (W Y : List Tx) (S2 : Dk), q ≤ ms.length ∧ i = .int .i64 q ∧ Hid (Las H' wB w5.heap.size w6.heap.size wk.heap.size w8.heap.size b c (.slice na L.length nc) (.slice sa L.length sc) (.slice wa L.length wc) L S wr S2 W Y) ∧ Hid (Laid S2 L W Y) ∧ Hid S2.Inv ∧ Hid (S2.Small (ds.length + 2 * q))) (fun i _ => ms.length - (intOf i).toNat)
      case atStart => exact ⟨0, R, R, S1, Nat.zero_le _, rfl, HLas.out, HL1.out, HI1.out, HM1.out.mono (by omega)⟩
      case round =>
        obtain ⟨q, W, Y, S2, hq, rfl, hlas, hlaid, hI2, hS2⟩ := hrel
        obtain ⟨x0, x1⟩ := HBX.out wr hlas.out.g
        by_cases hql : q < ms.length
        · obtain ⟨a, ha⟩ : ∃ a, ms[q]? = some a := ⟨_, List.getElem?_eq_getElem hql⟩
          have haO := HMS.out a (List.mem_of_getElem? ha)
          obtain ⟨g, off, fv, bv, rfl, -, hg, k0, -, k2, k3, -⟩ := HVM.out.at_ ha
          have hcell : ∀ W', Wr (fun _ => False) wB W' → ∀ o, W'.cell? ⟨g, o, none⟩ = wB.cell? ⟨g, o, none⟩ := fun W' hW o => World.cell?_of_block (hW.block g hg (fun h => h))
          have HC := Lib.hid (show ∀ W', Wr (fun _ => False) wB W' → W'.cell? ⟨g, off + q * 7, none⟩ = some (.int .i64 a.kind) ∧ W'.cell? ⟨g, off + q * 7 + 2, none⟩ = some (.string (str a.B)) ∧ W'.cell? ⟨g, off + q * 7 + 3, none⟩ = some (.int .i64 a.n) from fun W' hW => ⟨(hcell W' hW _).trans k0, (hcell W' hW _).trans k2, (hcell W' hW _).trans k3⟩)
          obtain ⟨c0, c2, c3⟩ := HC.out wr hlas.out.g
          have hqI : (q : Int) < (ms.length : Int) := by omega
          have hq0 : (0 : Int) ≤ (q : Int) := by omega
          clear ha k0 k2 k3 hcell
          by_cases hL0 : L.length = 0
          · have hl0 : ((L.length : Int) == 0) = true := by rw [hL0]; rfl
            clear hL0
            go_wp2_with fail
            obtain ⟨Rr, hRr, hRb⟩ := hlaid.out.crash hI2.out kc bs
            have HRb := Lib.hid hRb
            have HLW := Lib.hid (And.intro hlaid.out.lenW hlaid.out.lenY)
            have HCr2 := Lib.hid (hlas.out.two.p (fun F hF d => crash_any d hI2.out hS2.out (by omega) kc (.slice ba bs.length bc) bs (HVB.out.kept hlas.out.g (fun _ _ h => h)) (fun x hx hf => by
              have hord := hlas.out.ord
              exact (hF x hf).elim (fun h2 => by have := (hlas.out.hh x h2).1; omega) (fun h2 => by omega)) hbl))
            have HI5 := Lib.hid (hI2.out.crash kc bs)
            have HS5 := Lib.hid (hS2.out.crash kc bs)
            obtain ⟨S5, hS5⟩ : ∃ S5, S2.crashS kc bs = S5 := ⟨_, rfl⟩
            rw [hS5] at HCr2 HI5 HS5 hRr
            have HL5 := Lib.hid hRr
            clear hRr hRb hS5
            ((refine Calls.mono HCr2.out ?_); intro e w9 he; obtain ⟨rfl, hla9⟩ := hlas.out.op he; clear he)
            have HLa9 := Lib.hid hla9
            have HNm9 := Lib.hid (hla9.two.names HI5.out HS5.out (by omega))
            rw [HL5.out.told.1] at HNm9
            clear hla9
            go_wp2_with fail
            ((refine Calls.mono HNm9.out ?_); rintro e w10 ⟨vp, rfl, z10, b10⟩)
            have HLa10 := Lib.hid (HLa9.out.below b10)
            have HX10 := Lib.hid (texts_same (keys L) vp (.slice na L.length nc) (by rw [HKL.out]; omega) w10 z10.srow (HLa9.out.below b10).z.srow)
            obtain ⟨pa, pc, rfl, -⟩ := (show TRow w10 vp (keys L) from z10.srow).open
            clear z10 b10
            have hLn3 : (keys L).length = L.length := HKL.out
            rw [hLn3] at HX10 ⊢
            go_wp2_with fail
            ((refine Calls.mono HX10.out ?_); rintro e w10a ⟨rfl, nz, hw10⟩)
            have HLb := Lib.hid (show Las H' wB w5.heap.size w6.heap.size wk.heap.size w8.heap.size b c (.slice na L.length nc) (.slice sa L.length sc) (.slice wa L.length wc) L S w10a S5 W Y from by rw [hw10]; exact HLa10.out.below (below_drewN (Below.refl _ _) nz))
            have HLs9 := Lib.hid (HLb.out.two.lasting HI5.out HS5.out (by omega))
            rw [HL5.out.told.2] at HLs9
            clear hw10
            go_wp2_with fail
            ((refine Calls.mono HLs9.out ?_); rintro e w10b ⟨vq, rfl, z10, b10⟩)
            have HLc := Lib.hid (HLb.out.below b10)
            have HX11 := Lib.hid (texts_same (keys L) vq (.slice na L.length nc) (by rw [HKL.out]; omega) w10b z10.srow (HLb.out.below b10).z.srow)
            obtain ⟨qa, qc, rfl, -⟩ := (show TRow w10b vq (keys L) from z10.srow).open
            clear z10 b10
            rw [hLn3] at HX11 ⊢
            go_wp2_with fail
            ((refine Calls.mono HX11.out ?_); rintro e wL ⟨rfl, nz2, hwL⟩)
            have hlaL : Las H' wB w5.heap.size w6.heap.size wk.heap.size w8.heap.size b c (.slice na L.length nc) (.slice sa L.length sc) (.slice wa L.length wc) L S wL S5 W Y := by rw [hwL]; exact HLc.out.below (below_drewN (Below.refl _ _) nz2)
            clear hwL
            have HLaL := Lib.hid hlaL
            have HT3 := Lib.hid hlaL.two.bounded
            clear hlaL
            go_wp2_with fail
            go_loopw [20, 21] (fun s i wr => ∃ (q : Nat) (lv : Value), q ≤ L.length ∧ lv = s ∧ i = .int .i64 q ∧ Hid (OTx wr wL.heap.size lv (Rr.take q)) ∧ Hid (Below wL.heap.size wL wr)) (fun _ i _ => L.length - (intOf i).toNat)
            case atStart => exact ⟨0, _, Nat.zero_le _, rfl, rfl, by show World.ownsRow _ _ _ _ _ _ _; rw [List.take_zero]; exact World.ownsRow_nil _ _ _ _, Below.refl _ _⟩
            case round =>
              obtain ⟨q, lv, hq, rfl, rfl, hs3, hb3⟩ := hrel
              obtain ⟨wo, hwo⟩ : ∃ wo, wo = wr := ⟨_, rfl⟩
              subst hwo
              have hsz := hb3.out.size
              by_cases hql : q < L.length
              · obtain ⟨p, hp⟩ : ∃ p, L[q]? = some p := ⟨_, List.getElem?_eq_getElem hql⟩
                obtain ⟨r, hr⟩ : ∃ r, Rr[q]? = some r := ⟨_, List.getElem?_eq_getElem (by rw [HL5.out.lenW]; exact hql)⟩
                obtain ⟨t, ht⟩ : ∃ t, W[q]? = some t := ⟨_, List.getElem?_eq_getElem (by rw [HLW.out.1]; exact hql)⟩
                obtain ⟨y, hy⟩ : ∃ y, Y[q]? = some y := ⟨_, List.getElem?_eq_getElem (by rw [HLW.out.2]; exact hql)⟩
                obtain ⟨hyr, hrt, hre⟩ := HRb.out q t y r ht hy hr
                obtain ⟨ea, et, -⟩ := HL5.out.read HI5.out hp hr hr
                have hla := HLaL.out.below hb3.out
                obtain ⟨g1, o1, rfl, -, c1⟩ := trow_cell (show TRow wo (.slice na L.length nc) (keys L) from hla.z.srow) (q := q) (t := p.1) (by simp [keys, hp])
                obtain ⟨gs, cs, es, cY, -⟩ := hla.ycell hy
                obtain ⟨gw, cw, ew, cW, -⟩ := hla.wcell ht
                obtain rfl : sa = some ⟨gs, 0, none⟩ := by simp only [Value.slice.injEq] at es; exact es.1
                obtain rfl : wa = some ⟨gw, 0, none⟩ := by simp only [Value.slice.injEq] at ew; exact ew.1
                have HRd := Lib.hid (hla.two.read HI5.out p.1 (HLn.out p (List.mem_of_getElem? hp)))
                unfold ReadEnd at HRd
                rw [et, ea] at HRd
                have hrs := str_size r
                have hys := str_size y
                have hts := str_size t
                have hcut : (str t).extract 0 r.length = str r := by rw [str_take t _ hrt, ← hre]
                have i1 : ¬ (r.length : Int) < (y.length : Int) := by omega
                have i2 : ¬ (t.length : Int) < (r.length : Int) := by omega
                have i3 : (r.length : Int) ≤ (t.length : Int) := by omega
                have i4 : (0 : Int) ≤ (r.length : Int) := by omega
                have HRt := Lib.hid (show Rr.take (q + 1) = Rr.take q ++ [r] from by rw [List.take_add_one, hr]; rfl)
                have HRl := Lib.hid (show (Rr.take q).length = q from by rw [List.length_take, HL5.out.lenW]; omega)
                have hqI : (q : Int) < (L.length : Int) := by omega
                have hq0 : (0 : Int) ≤ (q : Int) := by omega
                clear hp hr ht hy ea et es ew hla hre hyr hrt
                go_wp2_with fail
                ((refine Calls.mono HRd.out ?_); rintro e wa' ⟨rfl, rfl⟩)
                go_wp2_with (at_builtin; refine wpList_append_text _ rfl (.tmp 230) (.tmp 232) rfl wL.heap.size lv (Rr.take q).length ((Rr.take q).map strV) rfl hs3.out (.string (str r)) rfl (by simp [Act.eval]) (by rw [HRl.out]; unfold maxLen; omega) (by rw [HRl.out]; omega) hsz ?_; intro v2 wz o2 hB2; have HO := Lib.hid (show OTx wz wL.heap.size v2 (Rr.take (q + 1)) from by rw [HRt.out]; unfold OTx; rw [List.length_append, List.map_append]; exact o2); have HB := Lib.hid (hB2 wL _ hb3.out (Nat.le_refl _)); clear o2 hB2)
                go_roundw
                case rel => exact ⟨q + 1, _, by omega, rfl, by go_num, HO.out, HB.out⟩
                case measure => simp [intOf]; omega
              · obtain rfl : q = L.length := by omega
                have hsR := hs3.out
                rw [show Rr.take L.length = Rr from by rw [← HL5.out.lenW, List.take_length]] at hsR
                obtain ⟨la, lc, rfl, -⟩ := hsR.trow.open
                have HLV := Lib.hid hsR
                have hRl2 : Rr.length = L.length := HL5.out.lenW
                rw [hRl2] at HLV
                rw [hRl2]
                clear hsR hs3
                have HCr3 := Lib.hid ((HT3.out.below hb3.out).p (fun F hF d => crash_any d HI5.out HS5.out (by omega) 0 (.slice none 0 0) [] (irow_nil _ (fun _ => False)) (fun _ h => h.elim) (by simp)))
                go_wp2_with fail
                ((refine Calls.mono HCr3.out ?_); rintro e w11 ⟨rfl, t11, r11⟩)
                have hord := HLaL.out.ord
                have HL6 := Lib.hid (HL5.out.again HI5.out 0 [])
                have HI6 := Lib.hid (HI5.out.crash 0 [])
                have HS6 := Lib.hid (HS5.out.crash 0 [])
                have HT11 := Lib.hid t11
                have HN11 := Lib.hid (show TRow w11 (.slice na L.length nc) (keys L) from (ZRow.wr (HLaL.out.below hb3.out).z r11 (fun g hg hk => by
                  have h1 := HLaL.out.zb g hg
                  exact hk.1.elim (fun h2 => by have := (HLaL.out.hh g h2).2; omega) (fun h2 => by omega))).srow)
                have HV11 := Lib.hid (show TRow w11 (.slice la L.length lc) Rr from by
                  have h0 : RowC wo (fun k => wL.heap.size ≤ k) 9 1 (.slice la L.length lc) Rr.length (Rr.map strV) := ⟨owns_low HLV.out (Nat.zero_le _), fun g hg => (World.ownsRow.lt HLV.out g hg).1⟩
                  exact OTx.trow (B := 0) (RowC.kept h0 r11 (fun k hk hp => by have := hp.2; omega)).1)
                have HG11 := Lib.hid (show Wr (fun _ => False) wB w11 from (HLaL.out.below hb3.out).g.trans r11 (fun k hk => .inr (hk.1.elim (fun h2 => (HLaL.out.hh k h2).1) (fun h2 => by omega))))
                clear t11 r11
                go_wp2_with fail
                go_loop [24] (fun i => ∃ q : Nat, q ≤ L.length ∧ i = .int .i64 q) (fun i => L.length - (intOf i).toNat)
                case atStart => exact ⟨0, Nat.zero_le _, rfl⟩
                case round =>
                  obtain ⟨q, hq, rfl⟩ := hrel
                  by_cases hql : q < L.length
                  · obtain ⟨p, hp⟩ : ∃ p, L[q]? = some p := ⟨_, List.getElem?_eq_getElem hql⟩
                    obtain ⟨r, hr⟩ : ∃ r, Rr[q]? = some r := ⟨_, List.getElem?_eq_getElem (by rw [HL6.out.lenW]; exact hql)⟩
                    obtain ⟨ea, et, -⟩ := HL6.out.read HI6.out hp hr hr
                    obtain ⟨g1, o1, rfl, -, c1⟩ := trow_cell HN11.out (q := q) (t := p.1) (by simp [keys, hp])
                    obtain ⟨g2, o2, rfl, -, c2⟩ := trow_cell HV11.out hr
                    have HRd := Lib.hid (HT11.out.read HI6.out p.1 (HLn.out p (List.mem_of_getElem? hp)))
                    unfold ReadEnd at HRd
                    rw [et, ea] at HRd
                    have hqI : (q : Int) < (L.length : Int) := by omega
                    have hq0 : (0 : Int) ≤ (q : Int) := by omega
                    clear hp hr ea et
                    go_wp2_with fail
                    ((refine Calls.mono HRd.out ?_); rintro e wa ⟨rfl, rfl⟩)
                    go_wp2
                    go_round
                    case rel => exact ⟨q + 1, by omega, by go_num⟩
                    case measure => simp [intOf]; omega
                  · obtain rfl : q = L.length := by omega
                    have HNg := Lib.hid (HT11.out.names HI6.out HS6.out (by omega))
                    rw [HL6.out.told.1] at HNg
                    go_wp2_with fail
                    ((refine Calls.mono HNg.out ?_); rintro e w12 ⟨vz, rfl, z12, b12⟩)
                    have HX12 := Lib.hid (texts_same (keys L) vz (.slice na L.length nc) (by rw [HKL.out]; omega) w12 z12.srow (SRow.kept HN11.out b12))
                    obtain ⟨za, zc, rfl, -⟩ := (show TRow w12 vz (keys L) from z12.srow).open
                    have HB12 := Lib.hid b12
                    clear z12 b12
                    have hLn2 : (keys L).length = L.length := HKL.out
                    rw [hLn2] at HX12 ⊢
                    go_wp2_with fail
                    ((refine Calls.mono HX12.out ?_); rintro e w13 ⟨rfl, nz, hw13⟩)
                    go_wp2
                    go_ret
                    refine ⟨rfl, ?_⟩
                    (try rw [hw13])
                    exact HBB.out.1.trans (below_drewN ((HG11.out.trans (Wr.of_below HB12.out) (Grew.refl _ _)).below (fun _ h => h.elim) (Nat.le_of_lt HBB.out.2)) nz)
          have hl0 : ((L.length : Int) == 0) = false := by rw [beq_eq_false_iff_ne]; omega
          by_cases hn : a.n < 0
          · clear hL0
            go_wp2_with fail
            obtain ⟨Rr, hRr, hRb⟩ := hlaid.out.crash hI2.out kc bs
            have HRb := Lib.hid hRb
            have HLW := Lib.hid (And.intro hlaid.out.lenW hlaid.out.lenY)
            have HCr2 := Lib.hid (hlas.out.two.p (fun F hF d => crash_any d hI2.out hS2.out (by omega) kc (.slice ba bs.length bc) bs (HVB.out.kept hlas.out.g (fun _ _ h => h)) (fun x hx hf => by
              have hord := hlas.out.ord
              exact (hF x hf).elim (fun h2 => by have := (hlas.out.hh x h2).1; omega) (fun h2 => by omega)) hbl))
            have HI5 := Lib.hid (hI2.out.crash kc bs)
            have HS5 := Lib.hid (hS2.out.crash kc bs)
            obtain ⟨S5, hS5⟩ : ∃ S5, S2.crashS kc bs = S5 := ⟨_, rfl⟩
            rw [hS5] at HCr2 HI5 HS5 hRr
            have HL5 := Lib.hid hRr
            clear hRr hRb hS5
            ((refine Calls.mono HCr2.out ?_); intro e w9 he; obtain ⟨rfl, hla9⟩ := hlas.out.op he; clear he)
            have HLa9 := Lib.hid hla9
            have HNm9 := Lib.hid (hla9.two.names HI5.out HS5.out (by omega))
            rw [HL5.out.told.1] at HNm9
            clear hla9
            go_wp2_with fail
            ((refine Calls.mono HNm9.out ?_); rintro e w10 ⟨vp, rfl, z10, b10⟩)
            have HLa10 := Lib.hid (HLa9.out.below b10)
            have HX10 := Lib.hid (texts_same (keys L) vp (.slice na L.length nc) (by rw [HKL.out]; omega) w10 z10.srow (HLa9.out.below b10).z.srow)
            obtain ⟨pa, pc, rfl, -⟩ := (show TRow w10 vp (keys L) from z10.srow).open
            clear z10 b10
            have hLn3 : (keys L).length = L.length := HKL.out
            rw [hLn3] at HX10 ⊢
            go_wp2_with fail
            ((refine Calls.mono HX10.out ?_); rintro e w10a ⟨rfl, nz, hw10⟩)
            have HLb := Lib.hid (show Las H' wB w5.heap.size w6.heap.size wk.heap.size w8.heap.size b c (.slice na L.length nc) (.slice sa L.length sc) (.slice wa L.length wc) L S w10a S5 W Y from by rw [hw10]; exact HLa10.out.below (below_drewN (Below.refl _ _) nz))
            have HLs9 := Lib.hid (HLb.out.two.lasting HI5.out HS5.out (by omega))
            rw [HL5.out.told.2] at HLs9
            clear hw10
            go_wp2_with fail
            ((refine Calls.mono HLs9.out ?_); rintro e w10b ⟨vq, rfl, z10, b10⟩)
            have HLc := Lib.hid (HLb.out.below b10)
            have HX11 := Lib.hid (texts_same (keys L) vq (.slice na L.length nc) (by rw [HKL.out]; omega) w10b z10.srow (HLb.out.below b10).z.srow)
            obtain ⟨qa, qc, rfl, -⟩ := (show TRow w10b vq (keys L) from z10.srow).open
            clear z10 b10
            rw [hLn3] at HX11 ⊢
            go_wp2_with fail
            ((refine Calls.mono HX11.out ?_); rintro e wL ⟨rfl, nz2, hwL⟩)
            have hlaL : Las H' wB w5.heap.size w6.heap.size wk.heap.size w8.heap.size b c (.slice na L.length nc) (.slice sa L.length sc) (.slice wa L.length wc) L S wL S5 W Y := by rw [hwL]; exact HLc.out.below (below_drewN (Below.refl _ _) nz2)
            clear hwL
            have HLaL := Lib.hid hlaL
            have HT3 := Lib.hid hlaL.two.bounded
            clear hlaL
            go_wp2_with fail
            go_loopw [20, 21] (fun s i wr => ∃ (q : Nat) (lv : Value), q ≤ L.length ∧ lv = s ∧ i = .int .i64 q ∧ Hid (OTx wr wL.heap.size lv (Rr.take q)) ∧ Hid (Below wL.heap.size wL wr)) (fun _ i _ => L.length - (intOf i).toNat)
            case atStart => exact ⟨0, _, Nat.zero_le _, rfl, rfl, by show World.ownsRow _ _ _ _ _ _ _; rw [List.take_zero]; exact World.ownsRow_nil _ _ _ _, Below.refl _ _⟩
            case round =>
              obtain ⟨q, lv, hq, rfl, rfl, hs3, hb3⟩ := hrel
              obtain ⟨wo, hwo⟩ : ∃ wo, wo = wr := ⟨_, rfl⟩
              subst hwo
              have hsz := hb3.out.size
              by_cases hql : q < L.length
              · obtain ⟨p, hp⟩ : ∃ p, L[q]? = some p := ⟨_, List.getElem?_eq_getElem hql⟩
                obtain ⟨r, hr⟩ : ∃ r, Rr[q]? = some r := ⟨_, List.getElem?_eq_getElem (by rw [HL5.out.lenW]; exact hql)⟩
                obtain ⟨t, ht⟩ : ∃ t, W[q]? = some t := ⟨_, List.getElem?_eq_getElem (by rw [HLW.out.1]; exact hql)⟩
                obtain ⟨y, hy⟩ : ∃ y, Y[q]? = some y := ⟨_, List.getElem?_eq_getElem (by rw [HLW.out.2]; exact hql)⟩
                obtain ⟨hyr, hrt, hre⟩ := HRb.out q t y r ht hy hr
                obtain ⟨ea, et, -⟩ := HL5.out.read HI5.out hp hr hr
                have hla := HLaL.out.below hb3.out
                obtain ⟨g1, o1, rfl, -, c1⟩ := trow_cell (show TRow wo (.slice na L.length nc) (keys L) from hla.z.srow) (q := q) (t := p.1) (by simp [keys, hp])
                obtain ⟨gs, cs, es, cY, -⟩ := hla.ycell hy
                obtain ⟨gw, cw, ew, cW, -⟩ := hla.wcell ht
                obtain rfl : sa = some ⟨gs, 0, none⟩ := by simp only [Value.slice.injEq] at es; exact es.1
                obtain rfl : wa = some ⟨gw, 0, none⟩ := by simp only [Value.slice.injEq] at ew; exact ew.1
                have HRd := Lib.hid (hla.two.read HI5.out p.1 (HLn.out p (List.mem_of_getElem? hp)))
                unfold ReadEnd at HRd
                rw [et, ea] at HRd
                have hrs := str_size r
                have hys := str_size y
                have hts := str_size t
                have hcut : (str t).extract 0 r.length = str r := by rw [str_take t _ hrt, ← hre]
                have i1 : ¬ (r.length : Int) < (y.length : Int) := by omega
                have i2 : ¬ (t.length : Int) < (r.length : Int) := by omega
                have i3 : (r.length : Int) ≤ (t.length : Int) := by omega
                have i4 : (0 : Int) ≤ (r.length : Int) := by omega
                have HRt := Lib.hid (show Rr.take (q + 1) = Rr.take q ++ [r] from by rw [List.take_add_one, hr]; rfl)
                have HRl := Lib.hid (show (Rr.take q).length = q from by rw [List.length_take, HL5.out.lenW]; omega)
                have hqI : (q : Int) < (L.length : Int) := by omega
                have hq0 : (0 : Int) ≤ (q : Int) := by omega
                clear hp hr ht hy ea et es ew hla hre hyr hrt
                go_wp2_with fail
                ((refine Calls.mono HRd.out ?_); rintro e wa' ⟨rfl, rfl⟩)
                go_wp2_with (at_builtin; refine wpList_append_text _ rfl (.tmp 230) (.tmp 232) rfl wL.heap.size lv (Rr.take q).length ((Rr.take q).map strV) rfl hs3.out (.string (str r)) rfl (by simp [Act.eval]) (by rw [HRl.out]; unfold maxLen; omega) (by rw [HRl.out]; omega) hsz ?_; intro v2 wz o2 hB2; have HO := Lib.hid (show OTx wz wL.heap.size v2 (Rr.take (q + 1)) from by rw [HRt.out]; unfold OTx; rw [List.length_append, List.map_append]; exact o2); have HB := Lib.hid (hB2 wL _ hb3.out (Nat.le_refl _)); clear o2 hB2)
                go_roundw
                case rel => exact ⟨q + 1, _, by omega, rfl, by go_num, HO.out, HB.out⟩
                case measure => simp [intOf]; omega
              · obtain rfl : q = L.length := by omega
                have hsR := hs3.out
                rw [show Rr.take L.length = Rr from by rw [← HL5.out.lenW, List.take_length]] at hsR
                obtain ⟨la, lc, rfl, -⟩ := hsR.trow.open
                have HLV := Lib.hid hsR
                have hRl2 : Rr.length = L.length := HL5.out.lenW
                rw [hRl2] at HLV
                rw [hRl2]
                clear hsR hs3
                have HCr3 := Lib.hid ((HT3.out.below hb3.out).p (fun F hF d => crash_any d HI5.out HS5.out (by omega) 0 (.slice none 0 0) [] (irow_nil _ (fun _ => False)) (fun _ h => h.elim) (by simp)))
                go_wp2_with fail
                ((refine Calls.mono HCr3.out ?_); rintro e w11 ⟨rfl, t11, r11⟩)
                have hord := HLaL.out.ord
                have HL6 := Lib.hid (HL5.out.again HI5.out 0 [])
                have HI6 := Lib.hid (HI5.out.crash 0 [])
                have HS6 := Lib.hid (HS5.out.crash 0 [])
                have HT11 := Lib.hid t11
                have HN11 := Lib.hid (show TRow w11 (.slice na L.length nc) (keys L) from (ZRow.wr (HLaL.out.below hb3.out).z r11 (fun g hg hk => by
                  have h1 := HLaL.out.zb g hg
                  exact hk.1.elim (fun h2 => by have := (HLaL.out.hh g h2).2; omega) (fun h2 => by omega))).srow)
                have HV11 := Lib.hid (show TRow w11 (.slice la L.length lc) Rr from by
                  have h0 : RowC wo (fun k => wL.heap.size ≤ k) 9 1 (.slice la L.length lc) Rr.length (Rr.map strV) := ⟨owns_low HLV.out (Nat.zero_le _), fun g hg => (World.ownsRow.lt HLV.out g hg).1⟩
                  exact OTx.trow (B := 0) (RowC.kept h0 r11 (fun k hk hp => by have := hp.2; omega)).1)
                have HG11 := Lib.hid (show Wr (fun _ => False) wB w11 from (HLaL.out.below hb3.out).g.trans r11 (fun k hk => .inr (hk.1.elim (fun h2 => (HLaL.out.hh k h2).1) (fun h2 => by omega))))
                clear t11 r11
                go_wp2_with fail
                go_loop [24] (fun i => ∃ q : Nat, q ≤ L.length ∧ i = .int .i64 q) (fun i => L.length - (intOf i).toNat)
                case atStart => exact ⟨0, Nat.zero_le _, rfl⟩
                case round =>
                  obtain ⟨q, hq, rfl⟩ := hrel
                  by_cases hql : q < L.length
                  · obtain ⟨p, hp⟩ : ∃ p, L[q]? = some p := ⟨_, List.getElem?_eq_getElem hql⟩
                    obtain ⟨r, hr⟩ : ∃ r, Rr[q]? = some r := ⟨_, List.getElem?_eq_getElem (by rw [HL6.out.lenW]; exact hql)⟩
                    obtain ⟨ea, et, -⟩ := HL6.out.read HI6.out hp hr hr
                    obtain ⟨g1, o1, rfl, -, c1⟩ := trow_cell HN11.out (q := q) (t := p.1) (by simp [keys, hp])
                    obtain ⟨g2, o2, rfl, -, c2⟩ := trow_cell HV11.out hr
                    have HRd := Lib.hid (HT11.out.read HI6.out p.1 (HLn.out p (List.mem_of_getElem? hp)))
                    unfold ReadEnd at HRd
                    rw [et, ea] at HRd
                    have hqI : (q : Int) < (L.length : Int) := by omega
                    have hq0 : (0 : Int) ≤ (q : Int) := by omega
                    clear hp hr ea et
                    go_wp2_with fail
                    ((refine Calls.mono HRd.out ?_); rintro e wa ⟨rfl, rfl⟩)
                    go_wp2
                    go_round
                    case rel => exact ⟨q + 1, by omega, by go_num⟩
                    case measure => simp [intOf]; omega
                  · obtain rfl : q = L.length := by omega
                    have HNg := Lib.hid (HT11.out.names HI6.out HS6.out (by omega))
                    rw [HL6.out.told.1] at HNg
                    go_wp2_with fail
                    ((refine Calls.mono HNg.out ?_); rintro e w12 ⟨vz, rfl, z12, b12⟩)
                    have HX12 := Lib.hid (texts_same (keys L) vz (.slice na L.length nc) (by rw [HKL.out]; omega) w12 z12.srow (SRow.kept HN11.out b12))
                    obtain ⟨za, zc, rfl, -⟩ := (show TRow w12 vz (keys L) from z12.srow).open
                    have HB12 := Lib.hid b12
                    clear z12 b12
                    have hLn2 : (keys L).length = L.length := HKL.out
                    rw [hLn2] at HX12 ⊢
                    go_wp2_with fail
                    ((refine Calls.mono HX12.out ?_); rintro e w13 ⟨rfl, nz, hw13⟩)
                    go_wp2
                    go_ret
                    refine ⟨rfl, ?_⟩
                    (try rw [hw13])
                    exact HBB.out.1.trans (below_drewN ((HG11.out.trans (Wr.of_below HB12.out) (Grew.refl _ _)).below (fun _ h => h.elim) (Nat.le_of_lt HBB.out.2)) nz)
          obtain ⟨m, hm⟩ : ∃ m, a.n.toNat % L.length = m := ⟨_, rfl⟩
          have hmod : a.n.tmod (L.length : Int) = (m : Int) := by
            rw [Int.tmod_eq_emod_of_nonneg (by omega), ← hm]
            obtain ⟨z, hz⟩ : ∃ z : Nat, a.n = z := ⟨a.n.toNat, by omega⟩
            rw [hz]; simp
          have hml : m < L.length := by rw [← hm]; exact Nat.mod_lt _ (by omega)
          have hmI : (m : Int) < (L.length : Int) := by omega
          have hm0 : (0 : Int) ≤ (m : Int) := by omega
          obtain ⟨p, hp⟩ : ∃ p, L[m]? = some p := ⟨_, List.getElem?_eq_getElem hml⟩
          obtain ⟨t, ht⟩ : ∃ t, W[m]? = some t := ⟨_, List.getElem?_eq_getElem (by rw [hlaid.out.lenW]; exact hml)⟩
          obtain ⟨y, hy⟩ : ∃ y, Y[m]? = some y := ⟨_, List.getElem?_eq_getElem (by rw [hlaid.out.lenY]; exact hml)⟩
          have hpl := HLn.out p (List.mem_of_getElem? hp)
          obtain ⟨eAp, eNp, hlaid3⟩ := hlaid.out.append hI2.out hp ht a.B
          have hI3 := hI2.out.append p.1 a.B
          have hS3 := hS2.out.append p.1 haO.2.1
          have hAp := (hlas.out.two.below (Below.refl _ _).drew).p (fun F _ d => append_any d hI2.out hS2.out (by omega) p.1 a.B hpl haO.2.1)
          rw [eAp, eNp] at hAp
          obtain ⟨S3, hS3e⟩ : ∃ S3, S2.appendS p.1 a.B = S3 := ⟨_, rfl⟩
          rw [hS3e] at hAp hlaid3 hI3 hS3
          have HAp := Lib.hid hAp
          have HL3 := Lib.hid hlaid3
          have HI3 := Lib.hid hI3
          have HS3 := Lib.hid hS3
          have hks : (keys L)[m]? = some p.1 := by simp [keys, hp]
          obtain ⟨gn, on, rfl, -, cn⟩ := trow_cell (show TRow wr (.slice na L.length nc) (keys L) from hlas.out.z.srow) hks
          have HCN := Lib.hid (show ∀ W', TRow W' (.slice (some ⟨gn, on, none⟩) L.length nc) (keys L) → W'.cell? ⟨gn, on + m, none⟩ = some (.string (str p.1)) from fun W' h => by
            obtain ⟨g', o', e, -, hc⟩ := trow_cell h hks
            obtain ⟨rfl, rfl⟩ : gn = g' ∧ on = o' := by simpa using e
            exact hc)
          have hsB := str_size a.B
          have hst := str_size t
          have hcat := str_append t a.B
          have htB : t.length ≤ (ds.length + 2 * q) * 1048576 := by
            have hf := hlaid.out.at_ m p t y hp ht hy
            exact hS2.out.texts _ (List.mem_of_getElem? hf)
          have hbig : ¬ 9223372036854775807 < t.length + a.B.length := by have := haO.2.1; omega
          have htt : (W.set m (t ++ a.B))[m]? = some (t ++ a.B) := List.getElem?_set_self (by rw [hlaid.out.lenW]; exact hml)
          have HSYN := Lib.hid (hlaid3.sync hI3 hp htt)
          have HTT := Lib.hid htt
          have HT := Lib.hid ht
          have HY := Lib.hid hy
          clear hL0 hm hp hy ht hAp hlaid3 hI3 hS3 hS3e eAp eNp hks htt htB hml
          go_wp2_with fail
          refine wp_region_held_drew (S := (fun W' => W'.cell? ⟨gn, on + m, none⟩ = some (.string (str p.1)) ∧ W'.cell? ⟨g, off + q * 7 + 2, none⟩ = some (.string (str a.B)))) (by kernel_rfl) ?_ (fun hHeld => ?_)
          · exact ⟨cn, c2⟩
          refine wpAnyH_take (i := 0) (oi := (Go.Oper.mk (some 111) (Go.Op.move (Go.Operand.tmp 7)) 28 _ #[] none)) (v := ?_) rfl (by kernel_rfl) (by kernel_rfl) (by kernel_rfl) (fun _ _ _ h => h) (Or.inl ⟨by rfl, ?_⟩) hHeld ?_
          rotate_left
          · intro w hSw; (try dsimp only at hSw); go_simp; (try with_reducible rfl)
          simp only [Act.put, List.setIfInBounds_toArray, List.set_cons_zero, List.set_cons_succ]
          refine wpAnyH_take (i := 1) (oi := (Go.Oper.mk (some 112) (Go.Op.move (Go.Operand.tmp 8)) 33 _ #[] none)) (v := ?_) rfl (by kernel_rfl) (by kernel_rfl) (by kernel_rfl) (fun _ _ _ h => h) (Or.inl ⟨by rfl, ?_⟩) hHeld ?_
          rotate_left
          · intro w hSw; (try dsimp only at hSw); go_simp; (try with_reducible rfl)
          simp only [Act.put, List.setIfInBounds_toArray, List.set_cons_zero, List.set_cons_succ]
          refine wpAnyH_take (i := 2) (oi := (Go.Oper.mk (some 113) (Go.Op.move (Go.Operand.tmp 17)) 3 _ #[] none)) (v := ?_) rfl (by kernel_rfl) (by kernel_rfl) (by kernel_rfl) (fun _ _ _ h => h) (Or.inl ⟨by rfl, ?_⟩) hHeld ?_
          rotate_left
          · intro w hSw; (try dsimp only at hSw); go_simp; (try with_reducible rfl)
          simp only [Act.put, List.setIfInBounds_toArray, List.set_cons_zero, List.set_cons_succ]
          refine wpAnyH_take (i := 3) (oi := (Go.Oper.mk (some 114) (Go.Op.indexAddr 33 (Go.Operand.tmp 112) (Go.Operand.tmp 113)) 0 _ #[Go.Edge.mk 1 Go.Ground.data, Go.Edge.mk 2 Go.Ground.data] none)) (v := ?_) rfl (by kernel_rfl) (by kernel_rfl) (by kernel_rfl) (fun _ _ _ h => h) (Or.inl ⟨by rfl, ?_⟩) hHeld ?_
          rotate_left
          · intro w hSw; (try dsimp only at hSw); go_simp; (try with_reducible rfl)
          simp only [Act.put, List.setIfInBounds_toArray, List.set_cons_zero, List.set_cons_succ]
          refine wpAnyH_take (i := 4) (oi := (Go.Oper.mk (some 115) (Go.Op.load 9 (Go.Operand.tmp 114)) 9 _ #[Go.Edge.mk 3 Go.Ground.data] none)) (v := ?_) rfl (by kernel_rfl) (by kernel_rfl) (by kernel_rfl) (fun _ _ _ h => h) (Or.inl ⟨by rfl, ?_⟩) hHeld ?_
          rotate_left
          · intro w hSw; (try dsimp only at hSw); go_simp; (try with_reducible rfl)
          simp only [Act.put, List.setIfInBounds_toArray, List.set_cons_zero, List.set_cons_succ]
          refine wpAnyH_take (i := 5) (oi := (Go.Oper.mk (some 116) (Go.Op.move (Go.Operand.tmp 1)) 27 _ #[] none)) (v := ?_) rfl (by kernel_rfl) (by kernel_rfl) (by kernel_rfl) (fun _ _ _ h => h) (Or.inl ⟨by rfl, ?_⟩) hHeld ?_
          rotate_left
          · intro w hSw; (try dsimp only at hSw); go_simp; (try with_reducible rfl)
          simp only [Act.put, List.setIfInBounds_toArray, List.set_cons_zero, List.set_cons_succ]
          refine wpAnyH_take (i := 6) (oi := (Go.Oper.mk (some 117) (Go.Op.move (Go.Operand.tmp 16)) 3 _ #[] none)) (v := ?_) rfl (by kernel_rfl) (by kernel_rfl) (by kernel_rfl) (fun _ _ _ h => h) (Or.inl ⟨by rfl, ?_⟩) hHeld ?_
          rotate_left
          · intro w hSw; (try dsimp only at hSw); go_simp; (try with_reducible rfl)
          simp only [Act.put, List.setIfInBounds_toArray, List.set_cons_zero, List.set_cons_succ]
          refine wpAnyH_take (i := 7) (oi := (Go.Oper.mk (some 118) (Go.Op.indexAddr 27 (Go.Operand.tmp 116) (Go.Operand.tmp 117)) 0 _ #[Go.Edge.mk 5 Go.Ground.data, Go.Edge.mk 6 Go.Ground.data] none)) (v := ?_) rfl (by kernel_rfl) (by kernel_rfl) (by kernel_rfl) (fun _ _ _ h => h) (Or.inl ⟨by rfl, ?_⟩) hHeld ?_
          rotate_left
          · intro w hSw; (try dsimp only at hSw); go_simp; (try with_reducible rfl)
          simp only [Act.put, List.setIfInBounds_toArray, List.set_cons_zero, List.set_cons_succ]
          refine wpAnyH_take (i := 8) (oi := (Go.Oper.mk (some 119) (Go.Op.fieldAddr 42 (Go.Operand.tmp 118) 2) 0 _ #[Go.Edge.mk 7 Go.Ground.data] none)) (v := ?_) rfl (by kernel_rfl) (by kernel_rfl) (by kernel_rfl) (fun _ _ _ h => h) (Or.inl ⟨by rfl, ?_⟩) hHeld ?_
          rotate_left
          · intro w hSw; (try dsimp only at hSw); go_simp; (try with_reducible rfl)
          simp only [Act.put, List.setIfInBounds_toArray, List.set_cons_zero, List.set_cons_succ]
          refine wpAnyH_take (i := 9) (oi := (Go.Oper.mk (some 120) (Go.Op.load 9 (Go.Operand.tmp 119)) 9 _ #[Go.Edge.mk 8 Go.Ground.data] none)) (v := ?_) rfl (by kernel_rfl) (by kernel_rfl) (by kernel_rfl) (fun _ _ _ h => h) (Or.inl ⟨by rfl, ?_⟩) hHeld ?_
          rotate_left
          · intro w hSw; (try dsimp only at hSw); go_simp; (try with_reducible rfl)
          simp only [Act.put, List.setIfInBounds_toArray, List.set_cons_zero, List.set_cons_succ]
          refine wpAnyH_ready (rs := [10]) (by kernel_rfl) (by simp) ?_
          refine (AllReadyH.cons (o := (Go.Oper.mk (some 121) (Go.Op.call (Go.Call.mk (Go.Callee.value (Go.Operand.func 16)) #[Go.Operand.tmp 111, Go.Operand.tmp 115, Go.Operand.tmp 120] #[28, 9, 9])) 38 _ #[Go.Edge.mk 0 Go.Ground.data, Go.Edge.mk 4 Go.Ground.data, Go.Edge.mk 9 Go.Ground.data] none)) rfl (fun K hK => ?_) AllReadyH.nil)
          · skip
            go_simp
            ((refine Calls.mono HAp.out ?_); intro e w10 he; obtain ⟨rfl, hla⟩ := Las.op (hlas.out.below (Below.refl _ _).drew) he; have HLa := Lib.hid hla; clear hla he)
            go_wp2_with fail
            refine hK.out _ _ ?_ (fun hHeld => ?_)
            · exact ⟨HCN.out _ HLa.out.z.srow, (HC.out _ HLa.out.g).2.1⟩
            clear hK K
            (try simp only [Act.put, List.setIfInBounds_toArray, List.set_cons_zero, List.set_cons_succ])
            refine wpAnyH_take (i := 11) (oi := (Go.Oper.mk (some 110) (Go.Op.move (Go.Operand.tmp 121)) 38 _ #[Go.Edge.mk 10 Go.Ground.data] none)) (v := ?_) rfl (by kernel_rfl) (by kernel_rfl) (by kernel_rfl) (fun _ _ _ h => h) (Or.inl ⟨by rfl, ?_⟩) hHeld ?_
            rotate_left
            · intro w hSw; (try dsimp only at hSw); go_simp; (try with_reducible rfl)
            simp only [Act.put, List.setIfInBounds_toArray, List.set_cons_zero, List.set_cons_succ]
            refine wpAnyH_take (i := 12) (oi := (Go.Oper.mk (some 122) (Go.Op.extract (Go.Operand.tmp 110) 0) 3 _ #[Go.Edge.mk 11 Go.Ground.data] none)) (v := ?_) rfl (by kernel_rfl) (by kernel_rfl) (by kernel_rfl) (fun _ _ _ h => h) (Or.inl ⟨by rfl, ?_⟩) hHeld ?_
            rotate_left
            · intro w hSw; (try dsimp only at hSw); go_simp; (try with_reducible rfl)
            simp only [Act.put, List.setIfInBounds_toArray, List.set_cons_zero, List.set_cons_succ]
            refine wpAnyH_take (i := 13) (oi := (Go.Oper.mk (some 123) (Go.Op.extract (Go.Operand.tmp 110) 1) 35 _ #[Go.Edge.mk 11 Go.Ground.data, Go.Edge.mk 14 (Go.Ground.gcOnly Go.Departure.lateStores)] none)) (v := ?_) rfl (by kernel_rfl) (by kernel_rfl) (by kernel_rfl) (fun _ _ _ h => h) (Or.inl ⟨by rfl, ?_⟩) hHeld ?_
            rotate_left
            · intro w hSw; (try dsimp only at hSw); go_simp; (try with_reducible rfl)
            simp only [Act.put, List.setIfInBounds_toArray, List.set_cons_zero, List.set_cons_succ]
            refine wpAnyH_take (i := 14) (oi := (Go.Oper.mk (some 18) (Go.Op.assign (Go.Operand.tmp 122)) 3 _ #[Go.Edge.mk 12 Go.Ground.data, Go.Edge.mk 10 Go.Ground.chain, Go.Edge.mk 0 Go.Ground.phase, Go.Edge.mk 1 Go.Ground.phase, Go.Edge.mk 2 Go.Ground.phase, Go.Edge.mk 3 Go.Ground.phase, Go.Edge.mk 4 Go.Ground.phase, Go.Edge.mk 5 Go.Ground.phase, Go.Edge.mk 6 Go.Ground.phase, Go.Edge.mk 7 Go.Ground.phase, Go.Edge.mk 8 Go.Ground.phase, Go.Edge.mk 9 Go.Ground.phase, Go.Edge.mk 10 Go.Ground.phase, Go.Edge.mk 11 Go.Ground.phase, Go.Edge.mk 12 Go.Ground.phase, Go.Edge.mk 13 (Go.Ground.textOnly Go.Departure.lateStores)] none)) (v := ?_) rfl (by kernel_rfl) (by kernel_rfl) (by kernel_rfl) (fun _ _ _ h => h) (Or.inl ⟨by rfl, ?_⟩) hHeld ?_
            rotate_left
            · intro w hSw; (try dsimp only at hSw); go_simp; (try with_reducible rfl)
            simp only [Act.put, List.setIfInBounds_toArray, List.set_cons_zero, List.set_cons_succ]
            refine wpAnyH_take (i := 15) (oi := (Go.Oper.mk (some 19) (Go.Op.assign (Go.Operand.tmp 123)) 35 _ #[Go.Edge.mk 13 Go.Ground.data, Go.Edge.mk 14 Go.Ground.chain, Go.Edge.mk 0 Go.Ground.phase, Go.Edge.mk 1 Go.Ground.phase, Go.Edge.mk 2 Go.Ground.phase, Go.Edge.mk 3 Go.Ground.phase, Go.Edge.mk 4 Go.Ground.phase, Go.Edge.mk 5 Go.Ground.phase, Go.Edge.mk 6 Go.Ground.phase, Go.Edge.mk 7 Go.Ground.phase, Go.Edge.mk 8 Go.Ground.phase, Go.Edge.mk 9 Go.Ground.phase, Go.Edge.mk 10 Go.Ground.phase, Go.Edge.mk 11 Go.Ground.phase, Go.Edge.mk 12 Go.Ground.phase, Go.Edge.mk 13 Go.Ground.phase, Go.Edge.mk 14 Go.Ground.phase] none)) (v := ?_) rfl (by kernel_rfl) (by kernel_rfl) (by kernel_rfl) (fun _ _ _ h => h) (Or.inl ⟨by rfl, ?_⟩) hHeld ?_
            rotate_left
            · intro w hSw; (try dsimp only at hSw); go_simp; (try with_reducible rfl)
            simp only [Act.put, List.setIfInBounds_toArray, List.set_cons_zero, List.set_cons_succ]
            refine wpAnyH_done (by kernel_rfl) ?_ _
            obtain ⟨gw, cw, ew, cW, zW⟩ := HLa.out.wcell HT.out
            obtain rfl : wa = some ⟨gw, 0, none⟩ := by simp only [Value.slice.injEq] at ew; exact ew.1
            have c2' := (HC.out _ HLa.out.g).2.1
            have zm := zW m
            have hWm := Lib.hid (HLa.out.setW m (t ++ a.B))
            clear ew zW
            go_wp2_with fail
            refine wp_region_held_drew (S := (fun W' => W'.cell? ⟨g, off + q * 7 + 2, none⟩ = some (.string (str a.B)))) (by kernel_rfl) ?_ (fun hHeld => ?_)
            · exact c2'
            refine wpAnyH_take (i := 0) (oi := (Go.Oper.mk (some 136) (Go.Op.move (Go.Operand.tmp 15)) 33 _ #[] none)) (v := ?_) rfl (by kernel_rfl) (by kernel_rfl) (by kernel_rfl) (fun _ _ _ h => h) (Or.inl ⟨by rfl, ?_⟩) hHeld ?_
            rotate_left
            · intro w hSw; (try dsimp only at hSw); go_simp; (try with_reducible rfl)
            simp only [Act.put, List.setIfInBounds_toArray, List.set_cons_zero, List.set_cons_succ]
            refine wpAnyH_take (i := 1) (oi := (Go.Oper.mk (some 137) (Go.Op.move (Go.Operand.tmp 17)) 3 _ #[] none)) (v := ?_) rfl (by kernel_rfl) (by kernel_rfl) (by kernel_rfl) (fun _ _ _ h => h) (Or.inl ⟨by rfl, ?_⟩) hHeld ?_
            rotate_left
            · intro w hSw; (try dsimp only at hSw); go_simp; (try with_reducible rfl)
            simp only [Act.put, List.setIfInBounds_toArray, List.set_cons_zero, List.set_cons_succ]
            refine wpAnyH_take (i := 2) (oi := (Go.Oper.mk (some 138) (Go.Op.indexAddr 33 (Go.Operand.tmp 136) (Go.Operand.tmp 137)) 0 _ #[Go.Edge.mk 0 Go.Ground.data, Go.Edge.mk 1 Go.Ground.data] none)) (v := ?_) rfl (by kernel_rfl) (by kernel_rfl) (by kernel_rfl) (fun _ _ _ h => h) (Or.inl ⟨by rfl, ?_⟩) hHeld ?_
            rotate_left
            · intro w hSw; (try dsimp only at hSw); go_simp; (try with_reducible rfl)
            simp only [Act.put, List.setIfInBounds_toArray, List.set_cons_zero, List.set_cons_succ]
            refine wpAnyH_take (i := 4) (oi := (Go.Oper.mk (some 140) (Go.Op.move (Go.Operand.tmp 1)) 27 _ #[] none)) (v := ?_) rfl (by kernel_rfl) (by kernel_rfl) (by kernel_rfl) (fun _ _ _ h => h) (Or.inl ⟨by rfl, ?_⟩) hHeld ?_
            rotate_left
            · intro w hSw; (try dsimp only at hSw); go_simp; (try with_reducible rfl)
            simp only [Act.put, List.setIfInBounds_toArray, List.set_cons_zero, List.set_cons_succ]
            refine wpAnyH_take (i := 5) (oi := (Go.Oper.mk (some 141) (Go.Op.move (Go.Operand.tmp 16)) 3 _ #[] none)) (v := ?_) rfl (by kernel_rfl) (by kernel_rfl) (by kernel_rfl) (fun _ _ _ h => h) (Or.inl ⟨by rfl, ?_⟩) hHeld ?_
            rotate_left
            · intro w hSw; (try dsimp only at hSw); go_simp; (try with_reducible rfl)
            simp only [Act.put, List.setIfInBounds_toArray, List.set_cons_zero, List.set_cons_succ]
            refine wpAnyH_take (i := 6) (oi := (Go.Oper.mk (some 142) (Go.Op.indexAddr 27 (Go.Operand.tmp 140) (Go.Operand.tmp 141)) 0 _ #[Go.Edge.mk 4 Go.Ground.data, Go.Edge.mk 5 Go.Ground.data] none)) (v := ?_) rfl (by kernel_rfl) (by kernel_rfl) (by kernel_rfl) (fun _ _ _ h => h) (Or.inl ⟨by rfl, ?_⟩) hHeld ?_
            rotate_left
            · intro w hSw; (try dsimp only at hSw); go_simp; (try with_reducible rfl)
            simp only [Act.put, List.setIfInBounds_toArray, List.set_cons_zero, List.set_cons_succ]
            refine wpAnyH_take (i := 7) (oi := (Go.Oper.mk (some 143) (Go.Op.fieldAddr 42 (Go.Operand.tmp 142) 2) 0 _ #[Go.Edge.mk 6 Go.Ground.data] none)) (v := ?_) rfl (by kernel_rfl) (by kernel_rfl) (by kernel_rfl) (fun _ _ _ h => h) (Or.inl ⟨by rfl, ?_⟩) hHeld ?_
            rotate_left
            · intro w hSw; (try dsimp only at hSw); go_simp; (try with_reducible rfl)
            simp only [Act.put, List.setIfInBounds_toArray, List.set_cons_zero, List.set_cons_succ]
            refine wpAnyH_take (i := 8) (oi := (Go.Oper.mk (some 144) (Go.Op.load 9 (Go.Operand.tmp 143)) 9 _ #[Go.Edge.mk 7 Go.Ground.data] none)) (v := ?_) rfl (by kernel_rfl) (by kernel_rfl) (by kernel_rfl) (fun _ _ _ h => h) (Or.inl ⟨by rfl, ?_⟩) hHeld ?_
            rotate_left
            · intro w hSw; (try dsimp only at hSw); go_simp; (try with_reducible rfl)
            simp only [Act.put, List.setIfInBounds_toArray, List.set_cons_zero, List.set_cons_succ]
            refine wpAnyH_ready (rs := [3]) (by kernel_rfl) (by simp) ?_
            refine (AllReadyH.cons (o := (Go.Oper.mk (some 139) (Go.Op.load 9 (Go.Operand.tmp 138)) 9 _ #[Go.Edge.mk 2 Go.Ground.data] none)) rfl (fun K hK => ?_) AllReadyH.nil)
            · skip
              go_simp
              refine hK.out _ _ ?_ (fun hHeld => ?_)
              · exact c2'
              clear hK K
              (try simp only [Act.put, List.setIfInBounds_toArray, List.set_cons_zero, List.set_cons_succ])
              refine wpAnyH_take (i := 9) (oi := (Go.Oper.mk (some 145) (Go.Op.binOp Go.BinOp.add 9 (Go.Operand.tmp 139) (Go.Operand.tmp 144) 9) 9 _ #[Go.Edge.mk 3 Go.Ground.data, Go.Edge.mk 8 Go.Ground.data] none)) (v := ?_) rfl (by kernel_rfl) (by kernel_rfl) (by kernel_rfl) (fun _ _ _ h => h) (Or.inl ⟨by rfl, ?_⟩) hHeld ?_
              rotate_left
              · intro w hSw; (try dsimp only at hSw); go_simp; (try with_reducible rfl)
              simp only [Act.put, List.setIfInBounds_toArray, List.set_cons_zero, List.set_cons_succ]
              refine wpAnyH_take (i := 10) (oi := (Go.Oper.mk (some 146) (Go.Op.indexAddr 33 (Go.Operand.tmp 136) (Go.Operand.tmp 137)) 0 _ #[Go.Edge.mk 0 Go.Ground.data, Go.Edge.mk 1 Go.Ground.data, Go.Edge.mk 0 Go.Ground.phase, Go.Edge.mk 1 Go.Ground.phase, Go.Edge.mk 2 Go.Ground.phase, Go.Edge.mk 3 Go.Ground.phase, Go.Edge.mk 4 Go.Ground.phase, Go.Edge.mk 5 Go.Ground.phase, Go.Edge.mk 6 Go.Ground.phase, Go.Edge.mk 7 Go.Ground.phase, Go.Edge.mk 8 Go.Ground.phase, Go.Edge.mk 9 Go.Ground.phase] none)) (v := ?_) rfl (by kernel_rfl) (by kernel_rfl) (by kernel_rfl) (fun _ _ _ h => h) (Or.inl ⟨by rfl, ?_⟩) hHeld ?_
              rotate_left
              · intro w hSw; (try dsimp only at hSw); go_simp; (try with_reducible rfl)
              simp only [Act.put, List.setIfInBounds_toArray, List.set_cons_zero, List.set_cons_succ]
              refine wpAnyH_ready (rs := [11]) (by kernel_rfl) (by simp) ?_
              refine (AllReadyH.cons (o := (Go.Oper.mk none (Go.Op.store 9 (Go.Operand.tmp 146) (Go.Operand.tmp 145)) 0 _ #[Go.Edge.mk 10 Go.Ground.data, Go.Edge.mk 9 Go.Ground.data, Go.Edge.mk 0 Go.Ground.phase, Go.Edge.mk 1 Go.Ground.phase, Go.Edge.mk 2 Go.Ground.phase, Go.Edge.mk 3 Go.Ground.phase, Go.Edge.mk 4 Go.Ground.phase, Go.Edge.mk 5 Go.Ground.phase, Go.Edge.mk 6 Go.Ground.phase, Go.Edge.mk 7 Go.Ground.phase, Go.Edge.mk 8 Go.Ground.phase, Go.Edge.mk 9 Go.Ground.phase] none)) rfl (fun K hK => ?_) AllReadyH.nil)
              · skip
                go_simp
                refine hK.out _ _ ?_ (fun hHeld => ?_)
                · exact (HC.out _ hWm.out.g).2.1
                clear hK K
                (try simp only [Act.put, List.setIfInBounds_toArray, List.set_cons_zero, List.set_cons_succ])
                refine wpAnyH_done (by kernel_rfl) ?_ _
                generalize w10.setCell ⟨gw, m, none⟩ (.string (str (t ++ a.B))) = w11 at hWm ⊢
                have HLd := Lib.hid (hWm.out.below (Below.refl _ _).drew)
                obtain ⟨d0, -, -⟩ := HC.out _ HLd.out.g
                clear c2' zm cW
                by_cases hk : a.kind = 3
                · have hk1 : (a.kind == 3) = true := by rw [hk]; rfl
                  obtain ⟨eS, hL4⟩ := HSYN.out
                  have hSy := HLd.out.two.p (fun F _ d => sync_any d HI3.out HS3.out (by omega) p.1 hpl)
                  rw [eS] at hSy
                  obtain ⟨S4, hS4⟩ : ∃ S4, S3.syncS p.1 = S4 := ⟨_, rfl⟩
                  have hI4 := HI3.out.syn p.1
                  have hM4 := HS3.out.syn p.1
                  rw [hS4] at hL4 hSy hI4 hM4
                  have HI4 := Lib.hid hI4
                  have HS4 := Lib.hid hM4
                  have HL4 := Lib.hid hL4
                  have HSy := Lib.hid hSy
                  have dn : w11.cell? ⟨gn, on + m, none⟩ = some (.string (str p.1)) := HCN.out _ hWm.out.z.srow
                  have d0' : w11.cell? ⟨g, off + q * 7, none⟩ = some (.int .i64 a.kind) := d0
                  clear hk eS hL4 hS4 hI4 hM4 hSy d0
                  go_wp2_with fail
                  ((refine Calls.mono HSy.out ?_); intro e w12 he; obtain ⟨rfl, hle⟩ := HLd.out.op he; have HLe := Lib.hid hle; clear hle he)
                  obtain ⟨gs, cs, es, cY, zY⟩ := HLe.out.ycell HY.out
                  obtain rfl : sa = some ⟨gs, 0, none⟩ := by simp only [Value.slice.injEq] at es; exact es.1
                  obtain ⟨gw', cw', ew', cW', -⟩ := HLe.out.wcell HTT.out
                  obtain rfl : gw = gw' := by simp only [Value.slice.injEq, Option.some.injEq, Addr.mk.injEq] at ew'; exact ew'.1.1
                  have zYm := zY m
                  have HLf := Lib.hid (HLe.out.setY m (t ++ a.B))
                  clear es ew' zY
                  go_wp2
                  go_roundw
                  case rel => exact ⟨q + 1, _, _, S4, by omega, by go_num, HLf.out, HL4.out, HI4.out, HS4.out.mono (by omega)⟩
                  case measure => simp [intOf]; omega
                · have hk1 : (a.kind == 3) = false := by rw [beq_eq_false_iff_ne]; exact hk
                  have d0' : w11.cell? ⟨g, off + q * 7, none⟩ = some (.int .i64 a.kind) := d0
                  clear hk d0
                  go_wp2
                  go_roundw
                  case rel => exact ⟨q + 1, _, _, S3, by omega, by go_num, HLd.out, HL3.out, HI3.out, HS3.out.mono (by omega)⟩
                  case measure => simp [intOf]; omega
        · obtain rfl : q = ms.length := by omega
          go_wp2_with fail
          obtain ⟨Rr, hRr, hRb⟩ := hlaid.out.crash hI2.out kc bs
          have HRb := Lib.hid hRb
          have HLW := Lib.hid (And.intro hlaid.out.lenW hlaid.out.lenY)
          have HCr2 := Lib.hid (hlas.out.two.p (fun F hF d => crash_any d hI2.out hS2.out (by omega) kc (.slice ba bs.length bc) bs (HVB.out.kept hlas.out.g (fun _ _ h => h)) (fun x hx hf => by
            have hord := hlas.out.ord
            exact (hF x hf).elim (fun h2 => by have := (hlas.out.hh x h2).1; omega) (fun h2 => by omega)) hbl))
          have HI5 := Lib.hid (hI2.out.crash kc bs)
          have HS5 := Lib.hid (hS2.out.crash kc bs)
          obtain ⟨S5, hS5⟩ : ∃ S5, S2.crashS kc bs = S5 := ⟨_, rfl⟩
          rw [hS5] at HCr2 HI5 HS5 hRr
          have HL5 := Lib.hid hRr
          clear hRr hRb hS5
          ((refine Calls.mono HCr2.out ?_); intro e w9 he; obtain ⟨rfl, hla9⟩ := hlas.out.op he; clear he)
          have HLa9 := Lib.hid hla9
          have HNm9 := Lib.hid (hla9.two.names HI5.out HS5.out (by omega))
          rw [HL5.out.told.1] at HNm9
          clear hla9
          go_wp2_with fail
          ((refine Calls.mono HNm9.out ?_); rintro e w10 ⟨vp, rfl, z10, b10⟩)
          have HLa10 := Lib.hid (HLa9.out.below b10)
          have HX10 := Lib.hid (texts_same (keys L) vp (.slice na L.length nc) (by rw [HKL.out]; omega) w10 z10.srow (HLa9.out.below b10).z.srow)
          obtain ⟨pa, pc, rfl, -⟩ := (show TRow w10 vp (keys L) from z10.srow).open
          clear z10 b10
          have hLn3 : (keys L).length = L.length := HKL.out
          rw [hLn3] at HX10 ⊢
          go_wp2_with fail
          ((refine Calls.mono HX10.out ?_); rintro e w10a ⟨rfl, nz, hw10⟩)
          have HLb := Lib.hid (show Las H' wB w5.heap.size w6.heap.size wk.heap.size w8.heap.size b c (.slice na L.length nc) (.slice sa L.length sc) (.slice wa L.length wc) L S w10a S5 W Y from by rw [hw10]; exact HLa10.out.below (below_drewN (Below.refl _ _) nz))
          have HLs9 := Lib.hid (HLb.out.two.lasting HI5.out HS5.out (by omega))
          rw [HL5.out.told.2] at HLs9
          clear hw10
          go_wp2_with fail
          ((refine Calls.mono HLs9.out ?_); rintro e w10b ⟨vq, rfl, z10, b10⟩)
          have HLc := Lib.hid (HLb.out.below b10)
          have HX11 := Lib.hid (texts_same (keys L) vq (.slice na L.length nc) (by rw [HKL.out]; omega) w10b z10.srow (HLb.out.below b10).z.srow)
          obtain ⟨qa, qc, rfl, -⟩ := (show TRow w10b vq (keys L) from z10.srow).open
          clear z10 b10
          rw [hLn3] at HX11 ⊢
          go_wp2_with fail
          ((refine Calls.mono HX11.out ?_); rintro e wL ⟨rfl, nz2, hwL⟩)
          have hlaL : Las H' wB w5.heap.size w6.heap.size wk.heap.size w8.heap.size b c (.slice na L.length nc) (.slice sa L.length sc) (.slice wa L.length wc) L S wL S5 W Y := by rw [hwL]; exact HLc.out.below (below_drewN (Below.refl _ _) nz2)
          clear hwL
          have HLaL := Lib.hid hlaL
          have HT3 := Lib.hid hlaL.two.bounded
          clear hlaL
          go_wp2_with fail
          go_loopw [20, 21] (fun s i wr => ∃ (q : Nat) (lv : Value), q ≤ L.length ∧ lv = s ∧ i = .int .i64 q ∧ Hid (OTx wr wL.heap.size lv (Rr.take q)) ∧ Hid (Below wL.heap.size wL wr)) (fun _ i _ => L.length - (intOf i).toNat)
          case atStart => exact ⟨0, _, Nat.zero_le _, rfl, rfl, by show World.ownsRow _ _ _ _ _ _ _; rw [List.take_zero]; exact World.ownsRow_nil _ _ _ _, Below.refl _ _⟩
          case round =>
            obtain ⟨q, lv, hq, rfl, rfl, hs3, hb3⟩ := hrel
            obtain ⟨wo, hwo⟩ : ∃ wo, wo = wr := ⟨_, rfl⟩
            subst hwo
            have hsz := hb3.out.size
            by_cases hql : q < L.length
            · obtain ⟨p, hp⟩ : ∃ p, L[q]? = some p := ⟨_, List.getElem?_eq_getElem hql⟩
              obtain ⟨r, hr⟩ : ∃ r, Rr[q]? = some r := ⟨_, List.getElem?_eq_getElem (by rw [HL5.out.lenW]; exact hql)⟩
              obtain ⟨t, ht⟩ : ∃ t, W[q]? = some t := ⟨_, List.getElem?_eq_getElem (by rw [HLW.out.1]; exact hql)⟩
              obtain ⟨y, hy⟩ : ∃ y, Y[q]? = some y := ⟨_, List.getElem?_eq_getElem (by rw [HLW.out.2]; exact hql)⟩
              obtain ⟨hyr, hrt, hre⟩ := HRb.out q t y r ht hy hr
              obtain ⟨ea, et, -⟩ := HL5.out.read HI5.out hp hr hr
              have hla := HLaL.out.below hb3.out
              obtain ⟨g1, o1, rfl, -, c1⟩ := trow_cell (show TRow wo (.slice na L.length nc) (keys L) from hla.z.srow) (q := q) (t := p.1) (by simp [keys, hp])
              obtain ⟨gs, cs, es, cY, -⟩ := hla.ycell hy
              obtain ⟨gw, cw, ew, cW, -⟩ := hla.wcell ht
              obtain rfl : sa = some ⟨gs, 0, none⟩ := by simp only [Value.slice.injEq] at es; exact es.1
              obtain rfl : wa = some ⟨gw, 0, none⟩ := by simp only [Value.slice.injEq] at ew; exact ew.1
              have HRd := Lib.hid (hla.two.read HI5.out p.1 (HLn.out p (List.mem_of_getElem? hp)))
              unfold ReadEnd at HRd
              rw [et, ea] at HRd
              have hrs := str_size r
              have hys := str_size y
              have hts := str_size t
              have hcut : (str t).extract 0 r.length = str r := by rw [str_take t _ hrt, ← hre]
              have i1 : ¬ (r.length : Int) < (y.length : Int) := by omega
              have i2 : ¬ (t.length : Int) < (r.length : Int) := by omega
              have i3 : (r.length : Int) ≤ (t.length : Int) := by omega
              have i4 : (0 : Int) ≤ (r.length : Int) := by omega
              have HRt := Lib.hid (show Rr.take (q + 1) = Rr.take q ++ [r] from by rw [List.take_add_one, hr]; rfl)
              have HRl := Lib.hid (show (Rr.take q).length = q from by rw [List.length_take, HL5.out.lenW]; omega)
              have hqI : (q : Int) < (L.length : Int) := by omega
              have hq0 : (0 : Int) ≤ (q : Int) := by omega
              clear hp hr ht hy ea et es ew hla hre hyr hrt
              go_wp2_with fail
              ((refine Calls.mono HRd.out ?_); rintro e wa' ⟨rfl, rfl⟩)
              go_wp2_with (at_builtin; refine wpList_append_text _ rfl (.tmp 230) (.tmp 232) rfl wL.heap.size lv (Rr.take q).length ((Rr.take q).map strV) rfl hs3.out (.string (str r)) rfl (by simp [Act.eval]) (by rw [HRl.out]; unfold maxLen; omega) (by rw [HRl.out]; omega) hsz ?_; intro v2 wz o2 hB2; have HO := Lib.hid (show OTx wz wL.heap.size v2 (Rr.take (q + 1)) from by rw [HRt.out]; unfold OTx; rw [List.length_append, List.map_append]; exact o2); have HB := Lib.hid (hB2 wL _ hb3.out (Nat.le_refl _)); clear o2 hB2)
              go_roundw
              case rel => exact ⟨q + 1, _, by omega, rfl, by go_num, HO.out, HB.out⟩
              case measure => simp [intOf]; omega
            · obtain rfl : q = L.length := by omega
              have hsR := hs3.out
              rw [show Rr.take L.length = Rr from by rw [← HL5.out.lenW, List.take_length]] at hsR
              obtain ⟨la, lc, rfl, -⟩ := hsR.trow.open
              have HLV := Lib.hid hsR
              have hRl2 : Rr.length = L.length := HL5.out.lenW
              rw [hRl2] at HLV
              rw [hRl2]
              clear hsR hs3
              have HCr3 := Lib.hid ((HT3.out.below hb3.out).p (fun F hF d => crash_any d HI5.out HS5.out (by omega) 0 (.slice none 0 0) [] (irow_nil _ (fun _ => False)) (fun _ h => h.elim) (by simp)))
              go_wp2_with fail
              ((refine Calls.mono HCr3.out ?_); rintro e w11 ⟨rfl, t11, r11⟩)
              have hord := HLaL.out.ord
              have HL6 := Lib.hid (HL5.out.again HI5.out 0 [])
              have HI6 := Lib.hid (HI5.out.crash 0 [])
              have HS6 := Lib.hid (HS5.out.crash 0 [])
              have HT11 := Lib.hid t11
              have HN11 := Lib.hid (show TRow w11 (.slice na L.length nc) (keys L) from (ZRow.wr (HLaL.out.below hb3.out).z r11 (fun g hg hk => by
                have h1 := HLaL.out.zb g hg
                exact hk.1.elim (fun h2 => by have := (HLaL.out.hh g h2).2; omega) (fun h2 => by omega))).srow)
              have HV11 := Lib.hid (show TRow w11 (.slice la L.length lc) Rr from by
                have h0 : RowC wo (fun k => wL.heap.size ≤ k) 9 1 (.slice la L.length lc) Rr.length (Rr.map strV) := ⟨owns_low HLV.out (Nat.zero_le _), fun g hg => (World.ownsRow.lt HLV.out g hg).1⟩
                exact OTx.trow (B := 0) (RowC.kept h0 r11 (fun k hk hp => by have := hp.2; omega)).1)
              have HG11 := Lib.hid (show Wr (fun _ => False) wB w11 from (HLaL.out.below hb3.out).g.trans r11 (fun k hk => .inr (hk.1.elim (fun h2 => (HLaL.out.hh k h2).1) (fun h2 => by omega))))
              clear t11 r11
              go_wp2_with fail
              go_loop [24] (fun i => ∃ q : Nat, q ≤ L.length ∧ i = .int .i64 q) (fun i => L.length - (intOf i).toNat)
              case atStart => exact ⟨0, Nat.zero_le _, rfl⟩
              case round =>
                obtain ⟨q, hq, rfl⟩ := hrel
                by_cases hql : q < L.length
                · obtain ⟨p, hp⟩ : ∃ p, L[q]? = some p := ⟨_, List.getElem?_eq_getElem hql⟩
                  obtain ⟨r, hr⟩ : ∃ r, Rr[q]? = some r := ⟨_, List.getElem?_eq_getElem (by rw [HL6.out.lenW]; exact hql)⟩
                  obtain ⟨ea, et, -⟩ := HL6.out.read HI6.out hp hr hr
                  obtain ⟨g1, o1, rfl, -, c1⟩ := trow_cell HN11.out (q := q) (t := p.1) (by simp [keys, hp])
                  obtain ⟨g2, o2, rfl, -, c2⟩ := trow_cell HV11.out hr
                  have HRd := Lib.hid (HT11.out.read HI6.out p.1 (HLn.out p (List.mem_of_getElem? hp)))
                  unfold ReadEnd at HRd
                  rw [et, ea] at HRd
                  have hqI : (q : Int) < (L.length : Int) := by omega
                  have hq0 : (0 : Int) ≤ (q : Int) := by omega
                  clear hp hr ea et
                  go_wp2_with fail
                  ((refine Calls.mono HRd.out ?_); rintro e wa ⟨rfl, rfl⟩)
                  go_wp2
                  go_round
                  case rel => exact ⟨q + 1, by omega, by go_num⟩
                  case measure => simp [intOf]; omega
                · obtain rfl : q = L.length := by omega
                  have HNg := Lib.hid (HT11.out.names HI6.out HS6.out (by omega))
                  rw [HL6.out.told.1] at HNg
                  go_wp2_with fail
                  ((refine Calls.mono HNg.out ?_); rintro e w12 ⟨vz, rfl, z12, b12⟩)
                  have HX12 := Lib.hid (texts_same (keys L) vz (.slice na L.length nc) (by rw [HKL.out]; omega) w12 z12.srow (SRow.kept HN11.out b12))
                  obtain ⟨za, zc, rfl, -⟩ := (show TRow w12 vz (keys L) from z12.srow).open
                  have HB12 := Lib.hid b12
                  clear z12 b12
                  have hLn2 : (keys L).length = L.length := HKL.out
                  rw [hLn2] at HX12 ⊢
                  go_wp2_with fail
                  ((refine Calls.mono HX12.out ?_); rintro e w13 ⟨rfl, nz, hw13⟩)
                  go_wp2
                  go_ret
                  refine ⟨rfl, ?_⟩
                  (try rw [hw13])
                  exact HBB.out.1.trans (below_drewN ((HG11.out.trans (Wr.of_below HB12.out) (Grew.refl _ _)).below (fun _ h => h.elim) (Nat.le_of_lt HBB.out.2)) nz)
end Go.Proofs.Ytbjlffhnkcbnmaa
