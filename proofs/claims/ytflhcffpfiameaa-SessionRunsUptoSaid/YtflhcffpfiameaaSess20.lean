/- The law's do, further kinds. -/
import Derived.Test.YtflhcffpfiameaaSess19
namespace Go.Proofs.Ytflhcffpfiameaa
open Go.ChangeShapes Go.WideShapes Go.ChangeAt Go.RowKit Go.Maps
set_option linter.unusedVariables false

set_option maxRecDepth 100000 in
set_option maxHeartbeats 6400000 in
theorem do_8 {B : Nat} {w : World} {b x : Nat} {F G : Nat → Prop} {S : SessM} (h : Pair B w b x F G S) (va : Option Addr) (vc : Nat) (bs : List ByteArray) (hs : ∀ W, Below B w W → SRow W (.slice va bs.length vc) bs) (hbs : ∀ y ∈ bs, y.size ≤ maxLen) (hlen : bs.length ≤ 1048576) :
    Calls Try.prog 19 #[.pointer (some ⟨b, 0, none⟩), .pointer (some ⟨x, 0, none⟩), .agg #[.int .i64 8, .slice va bs.length vc]] w (DoEnd B b x F G S w) := by
  have h0 := heap_alloc_new w (.cells #[.int .i64 8, .slice va bs.length vc] 45)
  have hbd : Below w.heap.size w (w.alloc (.cells #[.int .i64 8, .slice va bs.length vc] 45)) := (Below.refl _ _).alloc (Nat.le_refl _) _
  obtain ⟨wd, hwd⟩ : ∃ wd, w.alloc (.cells #[.int .i64 8, .slice va bs.length vc] 45) = wd := ⟨_, rfl⟩
  rw [hwd] at h0 hbd
  have hzd : wd.heap.size = w.heap.size + 1 := by rw [← hwd]; simp
  have d1 : wd.cell? ⟨w.heap.size, 1, none⟩ = some (.slice va bs.length vc) := by simp [World.cell?, h0]
  have dk : wd.cell? ⟨w.heap.size, 0, none⟩ = some (.int .i64 8) := by simp [World.cell?, h0]
  have HD1 := Lib.hid (And.intro dk d1)
  have HPd := Lib.hid (h.below hbd)
  have HBd := Lib.hid hbd
  have HSd := Lib.hid hs
  have HTd := Lib.hid (show TRow wd (.slice va bs.length vc) (texts bs) from TRow.of (hs wd (hbd.mono h.le)))
  have HF := Lib.hid h
  have hlt : (texts bs).length = bs.length := texts_length bs
  have hle := h.le
  clear h h0 hbd hs dk
  go_enter Try.func19, Try.ntmps19
  go_wp2_with (at_builtin; refine wpList_append_row (w0 := wd) rfl (.const (.slice none 0 0)) (.tmp 16) rfl [] (texts bs) (.slice none 0 0) (.slice va bs.length vc) rfl rfl (Made.nil _ _) HTd.out (Below.refl _ _) (by simp [texts_length]; omega) ?_)
  intro v1 w1 m1 b1 b1'
  replace m1 : Made wd w1 v1 (texts bs) := m1
  replace b1 : Below wd.heap.size wd w1 := by rw [hzd]; exact b1
  obtain ⟨a1, c1, hv1⟩ := m1.shape
  rw [hlt] at hv1
  subst hv1
  have M1 := Lib.hid m1
  have B1 := Lib.hid b1
  have d1' : w1.cell? ⟨w.heap.size, 1, none⟩ = some (.slice va bs.length vc) := (b1.cell (by show w.heap.size < _; omega)).trans d1
  clear m1 b1 b1' d1
  go_wp2_with (at_builtin; refine wpList_append_one _ rfl _ _ 23 rfl wd.heap.size 9 (.string ⟨#[]⟩) 16 Try.underlying23 infoS rfl (.slice a1 bs.length c1) bs.length ((texts bs).map strV) rfl (by have := M1.out.owns; rw [hlt] at this; exact this) (.string (str spareT)) rfl rfl (by simp only [maxLen]; omega) (by omega) (by exact B1.out.size) ?_)
  intro v2 w2 hown2 hg2 hbl2
  rw [← hzd] at hown2
  have hb2 := hbl2 wd wd.heap.size B1.out (by omega)
  clear hbl2 hg2
  obtain ⟨a2, c2, hv2, HM2⟩ := grownT (L := texts bs) (x := spareT) (by rw [hlt]; exact hown2) hb2
  obtain ⟨g, cg, hvg, hcg, hgw, cur, hcur, hcs, hcj, hcn⟩ := HM2.out.1.open_ hlt
  rw [hvg] at hv2
  subst hv2
  have HB2 := Lib.hid hb2
  have hz2 := hb2.size
  have HP2 := Lib.hid (HPd.out.below hb2)
  have hg2l : g < w2.heap.size := (Array.getElem?_eq_some_iff.1 hcur).1
  have HGF := Lib.hid (show ∀ k, F k ∨ G k → k < w.heap.size from fun k hk => hk.elim (HF.out.p.lt k) (HF.out.r.lt k))
  have d2 : w2.cell? ⟨w.heap.size, 1, none⟩ = some (.slice va bs.length vc) := (hb2.cell (by show w.heap.size < _; omega)).trans HD1.out.2
  have d0 : w2.cell? ⟨w.heap.size, 0, none⟩ = some (.int .i64 8) := (hb2.cell (by show w.heap.size < _; omega)).trans HD1.out.1
  have HK := Lib.hid (show ∀ W, Wr (fun k => F k ∨ G k) w2 W → Below B w W from fun W hW => ((HBd.out.mono hle).trans (HB2.out.mono (by omega))).trans (hW.below (fun k hk => hk.elim (HF.out.fB k) (HF.out.gB k)) (by omega)))
  have HCur := Lib.hid (And.intro hcur (And.intro hcs (And.intro hcj hcn)))
  have HSl := Lib.hid (show ∀ W, W.heap[g]? = w2.heap[g]? → SRow W (.slice (some ⟨g, 0, none⟩) bs.length cg) bs from fun W hW => ⟨_, cg, rfl, .inr ⟨g, 0, rfl, (Array.getElem?_eq_some_iff.1 (hW.trans hcur)).1, fun j y hy => by
    have h1 := hcj j y.data.toList (by simp [texts, hy])
    simp only [World.cell?, hW.trans hcur]
    simpa [strV, str_of] using h1⟩⟩)
  have hnog : ¬ (F g ∨ G g) := fun hk => by have := HGF.out g hk; omega
  have hnow : ¬ (F w.heap.size ∨ G w.heap.size) := fun hk => by have := HGF.out _ hk; omega
  clear hown2 hb2 hcj hcn HM2 HD1 d1' hcur
  have HCp := touch_any HP2.out.p _ bs (HSl.out _ rfl) hbs (by omega)
  replace HCp := Lib.hid HCp
  go_wp2_with fail
  (refine HCp.out.mono ?_; rintro e w3 ⟨rfl, s3, r3⟩)
  have d3 : w3.cell? ⟨w.heap.size, 1, none⟩ = some (.slice va bs.length vc) := (World.cell?_of_block (w := w2) (a := ⟨w.heap.size, 1, none⟩) (r3.block _ (by show w.heap.size < w2.heap.size; omega) (fun h => hnow (.inl h)))).trans d2
  have HRc := rtouch_any (HP2.out.ref r3) HP2.out.p.facts.2.2.1 _ bs (HSd.out w3 (HK.out w3 (r3.mono fun k hk _ => .inl hk))) (by omega)
  replace HRc := Lib.hid HRc
  have H3 := Lib.hid (And.intro s3 (And.intro (Grew.refl w2 F) r3))
  clear s3 r3
  go_wp2_with fail
  (refine HRc.out.mono ?_; rintro e w4 ⟨rfl, s4, r4⟩)
  have B4 := Lib.hid (HP2.out.both (S' := (S.touch bs)) H3.out.1 H3.out.2.1 H3.out.2.2 s4 (Grew.refl _ _) r4 (QOk.touch HP2.out.q bs))
  clear s4 r4
  obtain ⟨w5, hw45⟩ : ∃ w5, w5 = w4 := ⟨_, rfl⟩
  subst hw45
  have b5 : Below w5.heap.size w5 w5 := Below.refl _ _
  have HW5 := Lib.hid (B4.out.2.1.trans (Wr.of_below b5) (Grew.refl _ _))
  have HW5z := Lib.hid (show Wr (fun k => F k ∨ G k) w2 w5 from (by first | exact HW5.out | exact (Wr.of_below (Below.refl _ _).drew).trans HW5.out (Grew.refl _ _)))
  obtain ⟨F5, G5, S5, HQ5⟩ : ∃ F5 G5 S5, Hid (Pair B w5 b x F5 G5 S5 ∧ Grew w2 F F5 ∧ Grew w2 G G5 ∧ S5.places = S.places) := ⟨_, _, _, B4.out.1.below b5, B4.out.2.2.1, B4.out.2.2.2, by first | rfl | rfl⟩
  have HP5 := Lib.hid HQ5.out.1
  have HGr := Lib.hid (And.intro HQ5.out.2.1 HQ5.out.2.2.1)
  have HPl := Lib.hid HQ5.out.2.2.2
  clear b5
  have hk5 := HK.out w5 HW5.out
  have hcur5 : w5.heap[g]? = w2.heap[g]? := HW5.out.block g hg2l hnog
  have d5 : w5.cell? ⟨w.heap.size, 1, none⟩ = some (.slice va bs.length vc) := (World.cell?_of_block (w := w2) (a := ⟨w.heap.size, 1, none⟩) (HW5.out.block _ (by simp; omega) hnow)).trans d2
  have sp5 : w5.cell? ⟨g, bs.length, none⟩ = some (.string ⟨#[115, 112, 97, 114, 101]⟩) := by
    have h1 := HCur.out.2.2.2
    simp only [World.cell?, hcur5.trans HCur.out.1]
    simpa [strV, spareT, str] using h1
  have T1 := Lib.hid (show TRow w5 (.slice (some ⟨g, 0, none⟩) bs.length cg) (texts bs) from TRow.of (HSl.out w5 hcur5))
  have T2 := Lib.hid (show TRow w5 (.slice va bs.length vc) (texts bs) from TRow.of (HSd.out w5 hk5))
  have HC5 := Lib.hid (hcur5.trans HCur.out.1)
  clear hk5 hcur5 d2 d0
  go_wp2_with fail
  ((with_reducible refine (same_true (texts bs) _ _ (by rw [texts_length]; omega) _ T1.out T2.out).mono ?_); rintro e w6 ⟨rfl, n6, rfl⟩)
  have d6 : (w5.drewN n6).cell? ⟨w.heap.size, 1, none⟩ = some (.slice va bs.length vc) := d5
  have sp6 : (w5.drewN n6).cell? ⟨g, bs.length, none⟩ = some (.string ⟨#[115, 112, 97, 114, 101]⟩) := sp5
  go_wp2_with fail
  go_loopw [14] (fun i wr => ∃ j : Nat, j ≤ bs.length ∧ i = .int .i64 j ∧ Hid (Wr (fun k => k = g) (w5.drewN n6) wr) ∧ Hid (∃ cc, wr.heap[g]? = some (.cells cc 9 (0, 0)) ∧ bs.length ≤ cc.size)) (fun i _ => bs.length - (intOf i).toNat)
  case atStart => exact ⟨0, Nat.zero_le _, rfl, Wr.refl _ _, ⟨cur, HC5.out, by omega⟩⟩
  case round =>
    obtain ⟨j, hj, rfl, hw, hc⟩ := hrel
    by_cases hjl : j < bs.length
    · obtain ⟨cc, hcc, hcl⟩ := hc.out
      have hx : wr.cell? ⟨g, j, none⟩ = some (cc[j]'(by omega)) := by simp only [World.cell?, hcc]; simp
      have hfx : wr.frozen? ⟨g, j, none⟩ = false := by simp only [World.frozen?, hcc]; simp
      have HCC := Lib.hid hcc
      obtain ⟨u, hu⟩ : ∃ u, cc[j]'(by omega) = u := ⟨_, rfl⟩
      rw [hu] at hx
      have hjI : (j : Int) < (bs.length : Int) := by omega
      have hj0 : (0 : Int) ≤ (j : Int) := by omega
      clear hcc hu hc
      go_wp2
      go_roundw
      case rel => exact ⟨j + 1, by omega, by go_num, hw.out.setCell (p := ⟨g, j, none⟩) rfl _, ⟨_, heap_setCell_same HCC.out, by simpa using hcl⟩⟩
      case measure => simp [intOf]; omega
    · obtain rfl : j = bs.length := by omega
      have hgk : ∀ k, F5 k ∨ G5 k → k ≠ g := fun k hk e => by
        subst e
        rcases hk with hk | hk
        · rcases HGr.out.1 _ hk with h1 | h1
          · have := HGF.out _ (.inl h1); omega
          · omega
        · rcases HGr.out.2 _ hk with h1 | h1
          · have := HGF.out _ (.inr h1); omega
          · omega
      have hP5 := HP5.out
      have hP6 := hP5.below (below_drewN (Below.refl _ _) n6)
      go_wp2
      go_ret
      have hz5 : w2.heap.size ≤ w5.heap.size := HW5.out.size
      refine ⟨rfl, F5, G5, S5, ⟨hP6.p.kept hw.out fun k hk => hgk k (.inl hk), hP6.r.kept hw.out fun k hk => hgk k (.inr hk), hP6.d, hP6.fB, hP6.gB, hP6.q, Nat.le_trans hP6.le hw.out.size⟩, HPl.out, ?_, fun k hk => (HGr.out.1 k hk).imp id (fun h1 => by omega), fun k hk => (HGr.out.2 k hk).imp id (fun h1 => by omega)⟩
      exact ((((Wr.of_below HBd.out).trans (Wr.of_below HB2.out) (Grew.refl _ _)).trans HW5z.out (Grew.refl _ _)).drewN n6).trans hw.out (fun k hk => .inr (by omega))
set_option maxRecDepth 100000 in
set_option maxHeartbeats 6400000 in
theorem do_9 {B : Nat} {w : World} {b x : Nat} {F G : Nat → Prop} {S : SessM} (h : Pair B w b x F G S) (va : Option Addr) (vc : Nat) (bs : List ByteArray) (hs : ∀ W, Below B w W → SRow W (.slice va bs.length vc) bs) (hbs : ∀ y ∈ bs, y.size ≤ maxLen) (hlen : bs.length ≤ 1048576) :
    Calls Try.prog 19 #[.pointer (some ⟨b, 0, none⟩), .pointer (some ⟨x, 0, none⟩), .agg #[.int .i64 9, .slice va bs.length vc]] w (DoEnd B b x F G S w) := by
  have h0 := heap_alloc_new w (.cells #[.int .i64 9, .slice va bs.length vc] 45)
  have hbd : Below w.heap.size w (w.alloc (.cells #[.int .i64 9, .slice va bs.length vc] 45)) := (Below.refl _ _).alloc (Nat.le_refl _) _
  obtain ⟨wd, hwd⟩ : ∃ wd, w.alloc (.cells #[.int .i64 9, .slice va bs.length vc] 45) = wd := ⟨_, rfl⟩
  rw [hwd] at h0 hbd
  have hzd : wd.heap.size = w.heap.size + 1 := by rw [← hwd]; simp
  have d1 : wd.cell? ⟨w.heap.size, 1, none⟩ = some (.slice va bs.length vc) := by simp [World.cell?, h0]
  have dk : wd.cell? ⟨w.heap.size, 0, none⟩ = some (.int .i64 9) := by simp [World.cell?, h0]
  have HD1 := Lib.hid (And.intro dk d1)
  have HPd := Lib.hid (h.below hbd)
  have HBd := Lib.hid hbd
  have HSd := Lib.hid hs
  have HTd := Lib.hid (show TRow wd (.slice va bs.length vc) (texts bs) from TRow.of (hs wd (hbd.mono h.le)))
  have HF := Lib.hid h
  have hlt : (texts bs).length = bs.length := texts_length bs
  have hle := h.le
  clear h h0 hbd hs dk
  go_enter Try.func19, Try.ntmps19
  go_wp2_with (at_builtin; refine wpList_append_row (w0 := wd) rfl (.const (.slice none 0 0)) (.tmp 16) rfl [] (texts bs) (.slice none 0 0) (.slice va bs.length vc) rfl rfl (Made.nil _ _) HTd.out (Below.refl _ _) (by simp [texts_length]; omega) ?_)
  intro v1 w1 m1 b1 b1'
  replace m1 : Made wd w1 v1 (texts bs) := m1
  replace b1 : Below wd.heap.size wd w1 := by rw [hzd]; exact b1
  obtain ⟨a1, c1, hv1⟩ := m1.shape
  rw [hlt] at hv1
  subst hv1
  have M1 := Lib.hid m1
  have B1 := Lib.hid b1
  have d1' : w1.cell? ⟨w.heap.size, 1, none⟩ = some (.slice va bs.length vc) := (b1.cell (by show w.heap.size < _; omega)).trans d1
  clear m1 b1 b1' d1
  go_wp2_with (at_builtin; refine wpList_append_one _ rfl _ _ 23 rfl wd.heap.size 9 (.string ⟨#[]⟩) 16 Try.underlying23 infoS rfl (.slice a1 bs.length c1) bs.length ((texts bs).map strV) rfl (by have := M1.out.owns; rw [hlt] at this; exact this) (.string (str spareT)) rfl rfl (by simp only [maxLen]; omega) (by omega) (by exact B1.out.size) ?_)
  intro v2 w2 hown2 hg2 hbl2
  rw [← hzd] at hown2
  have hb2 := hbl2 wd wd.heap.size B1.out (by omega)
  clear hbl2 hg2
  obtain ⟨a2, c2, hv2, HM2⟩ := grownT (L := texts bs) (x := spareT) (by rw [hlt]; exact hown2) hb2
  obtain ⟨g, cg, hvg, hcg, hgw, cur, hcur, hcs, hcj, hcn⟩ := HM2.out.1.open_ hlt
  rw [hvg] at hv2
  subst hv2
  have HB2 := Lib.hid hb2
  have hz2 := hb2.size
  have HP2 := Lib.hid (HPd.out.below hb2)
  have hg2l : g < w2.heap.size := (Array.getElem?_eq_some_iff.1 hcur).1
  have HGF := Lib.hid (show ∀ k, F k ∨ G k → k < w.heap.size from fun k hk => hk.elim (HF.out.p.lt k) (HF.out.r.lt k))
  have d2 : w2.cell? ⟨w.heap.size, 1, none⟩ = some (.slice va bs.length vc) := (hb2.cell (by show w.heap.size < _; omega)).trans HD1.out.2
  have d0 : w2.cell? ⟨w.heap.size, 0, none⟩ = some (.int .i64 9) := (hb2.cell (by show w.heap.size < _; omega)).trans HD1.out.1
  have HK := Lib.hid (show ∀ W, Wr (fun k => F k ∨ G k) w2 W → Below B w W from fun W hW => ((HBd.out.mono hle).trans (HB2.out.mono (by omega))).trans (hW.below (fun k hk => hk.elim (HF.out.fB k) (HF.out.gB k)) (by omega)))
  have HCur := Lib.hid (And.intro hcur (And.intro hcs (And.intro hcj hcn)))
  have HSl := Lib.hid (show ∀ W, W.heap[g]? = w2.heap[g]? → SRow W (.slice (some ⟨g, 0, none⟩) bs.length cg) bs from fun W hW => ⟨_, cg, rfl, .inr ⟨g, 0, rfl, (Array.getElem?_eq_some_iff.1 (hW.trans hcur)).1, fun j y hy => by
    have h1 := hcj j y.data.toList (by simp [texts, hy])
    simp only [World.cell?, hW.trans hcur]
    simpa [strV, str_of] using h1⟩⟩)
  have hnog : ¬ (F g ∨ G g) := fun hk => by have := HGF.out g hk; omega
  have hnow : ¬ (F w.heap.size ∨ G w.heap.size) := fun hk => by have := HGF.out _ hk; omega
  clear hown2 hb2 hcj hcn HM2 HD1 d1' hcur
  have HCp := reset_some HP2.out.p
  replace HCp := Lib.hid HCp
  go_wp2_with fail
  (refine HCp.out.mono ?_; rintro e w3 ⟨rfl, F3, s3, g3, r3⟩)
  have d3 : w3.cell? ⟨w.heap.size, 1, none⟩ = some (.slice va bs.length vc) := (World.cell?_of_block (w := w2) (a := ⟨w.heap.size, 1, none⟩) (r3.block _ (by show w.heap.size < w2.heap.size; omega) (fun h => hnow (.inl h)))).trans d2
  have HRc := rreset_some (HP2.out.ref r3)
  replace HRc := Lib.hid HRc
  have H3 := Lib.hid (And.intro s3 (And.intro g3 r3))
  clear s3 r3
  go_wp2_with fail
  (refine HRc.out.mono ?_; rintro e w4 ⟨rfl, s4, r4⟩)
  have B4 := Lib.hid (HP2.out.both (S' := S.gone) H3.out.1 H3.out.2.1 H3.out.2.2 s4 (Grew.refl _ _) r4 QOk.gone)
  clear s4 r4
  obtain ⟨w5, hw45⟩ : ∃ w5, w5 = w4 := ⟨_, rfl⟩
  subst hw45
  have b5 : Below w5.heap.size w5 w5 := Below.refl _ _
  have HW5 := Lib.hid (B4.out.2.1.trans (Wr.of_below b5) (Grew.refl _ _))
  have HW5z := Lib.hid (show Wr (fun k => F k ∨ G k) w2 w5 from (by first | exact HW5.out | exact (Wr.of_below (Below.refl _ _).drew).trans HW5.out (Grew.refl _ _)))
  obtain ⟨F5, G5, S5, HQ5⟩ : ∃ F5 G5 S5, Hid (Pair B w5 b x F5 G5 S5 ∧ Grew w2 F F5 ∧ Grew w2 G G5 ∧ S5.places = S.places) := ⟨_, _, _, B4.out.1.below b5, B4.out.2.2.1, B4.out.2.2.2, by first | rfl | rfl⟩
  have HP5 := Lib.hid HQ5.out.1
  have HGr := Lib.hid (And.intro HQ5.out.2.1 HQ5.out.2.2.1)
  have HPl := Lib.hid HQ5.out.2.2.2
  clear b5
  have hk5 := HK.out w5 HW5.out
  have hcur5 : w5.heap[g]? = w2.heap[g]? := HW5.out.block g hg2l hnog
  have d5 : w5.cell? ⟨w.heap.size, 1, none⟩ = some (.slice va bs.length vc) := (World.cell?_of_block (w := w2) (a := ⟨w.heap.size, 1, none⟩) (HW5.out.block _ (by simp; omega) hnow)).trans d2
  have sp5 : w5.cell? ⟨g, bs.length, none⟩ = some (.string ⟨#[115, 112, 97, 114, 101]⟩) := by
    have h1 := HCur.out.2.2.2
    simp only [World.cell?, hcur5.trans HCur.out.1]
    simpa [strV, spareT, str] using h1
  have T1 := Lib.hid (show TRow w5 (.slice (some ⟨g, 0, none⟩) bs.length cg) (texts bs) from TRow.of (HSl.out w5 hcur5))
  have T2 := Lib.hid (show TRow w5 (.slice va bs.length vc) (texts bs) from TRow.of (HSd.out w5 hk5))
  have HC5 := Lib.hid (hcur5.trans HCur.out.1)
  clear hk5 hcur5 d2 d0
  go_wp2_with fail
  ((with_reducible refine (same_true (texts bs) _ _ (by rw [texts_length]; omega) _ T1.out T2.out).mono ?_); rintro e w6 ⟨rfl, n6, rfl⟩)
  have d6 : (w5.drewN n6).cell? ⟨w.heap.size, 1, none⟩ = some (.slice va bs.length vc) := d5
  have sp6 : (w5.drewN n6).cell? ⟨g, bs.length, none⟩ = some (.string ⟨#[115, 112, 97, 114, 101]⟩) := sp5
  go_wp2_with fail
  go_loopw [14] (fun i wr => ∃ j : Nat, j ≤ bs.length ∧ i = .int .i64 j ∧ Hid (Wr (fun k => k = g) (w5.drewN n6) wr) ∧ Hid (∃ cc, wr.heap[g]? = some (.cells cc 9 (0, 0)) ∧ bs.length ≤ cc.size)) (fun i _ => bs.length - (intOf i).toNat)
  case atStart => exact ⟨0, Nat.zero_le _, rfl, Wr.refl _ _, ⟨cur, HC5.out, by omega⟩⟩
  case round =>
    obtain ⟨j, hj, rfl, hw, hc⟩ := hrel
    by_cases hjl : j < bs.length
    · obtain ⟨cc, hcc, hcl⟩ := hc.out
      have hx : wr.cell? ⟨g, j, none⟩ = some (cc[j]'(by omega)) := by simp only [World.cell?, hcc]; simp
      have hfx : wr.frozen? ⟨g, j, none⟩ = false := by simp only [World.frozen?, hcc]; simp
      have HCC := Lib.hid hcc
      obtain ⟨u, hu⟩ : ∃ u, cc[j]'(by omega) = u := ⟨_, rfl⟩
      rw [hu] at hx
      have hjI : (j : Int) < (bs.length : Int) := by omega
      have hj0 : (0 : Int) ≤ (j : Int) := by omega
      clear hcc hu hc
      go_wp2
      go_roundw
      case rel => exact ⟨j + 1, by omega, by go_num, hw.out.setCell (p := ⟨g, j, none⟩) rfl _, ⟨_, heap_setCell_same HCC.out, by simpa using hcl⟩⟩
      case measure => simp [intOf]; omega
    · obtain rfl : j = bs.length := by omega
      have hgk : ∀ k, F5 k ∨ G5 k → k ≠ g := fun k hk e => by
        subst e
        rcases hk with hk | hk
        · rcases HGr.out.1 _ hk with h1 | h1
          · have := HGF.out _ (.inl h1); omega
          · omega
        · rcases HGr.out.2 _ hk with h1 | h1
          · have := HGF.out _ (.inr h1); omega
          · omega
      have hP5 := HP5.out
      have hP6 := hP5.below (below_drewN (Below.refl _ _) n6)
      go_wp2
      go_ret
      have hz5 : w2.heap.size ≤ w5.heap.size := HW5.out.size
      refine ⟨rfl, F5, G5, S5, ⟨hP6.p.kept hw.out fun k hk => hgk k (.inl hk), hP6.r.kept hw.out fun k hk => hgk k (.inr hk), hP6.d, hP6.fB, hP6.gB, hP6.q, Nat.le_trans hP6.le hw.out.size⟩, HPl.out, ?_, fun k hk => (HGr.out.1 k hk).imp id (fun h1 => by omega), fun k hk => (HGr.out.2 k hk).imp id (fun h1 => by omega)⟩
      exact ((((Wr.of_below HBd.out).trans (Wr.of_below HB2.out) (Grew.refl _ _)).trans HW5z.out (Grew.refl _ _)).drewN n6).trans hw.out (fun k hk => .inr (by omega))
set_option maxRecDepth 100000 in
set_option maxHeartbeats 6400000 in
theorem do_else {B : Nat} {w : World} {b x : Nat} {F G : Nat → Prop} {S : SessM} (h : Pair B w b x F G S) (kd : Int) (e0 : (kd == 0) = false) (e1 : (kd == 1) = false) (e2 : (kd == 2) = false) (e3 : (kd == 3) = false) (e4 : (kd == 4) = false) (e5 : (kd == 5) = false) (e6 : (kd == 6) = false) (e7 : (kd == 7) = false) (e8 : (kd == 8) = false) (e9 : (kd == 9) = false) (va : Option Addr) (vc : Nat) (bs : List ByteArray) (hs : ∀ W, Below B w W → SRow W (.slice va bs.length vc) bs) (hbs : ∀ y ∈ bs, y.size ≤ maxLen) (hlen : bs.length ≤ 1048576) :
    Calls Try.prog 19 #[.pointer (some ⟨b, 0, none⟩), .pointer (some ⟨x, 0, none⟩), .agg #[.int .i64 kd, .slice va bs.length vc]] w (DoEnd B b x F G S w) := by
  have h0 := heap_alloc_new w (.cells #[.int .i64 kd, .slice va bs.length vc] 45)
  have hbd : Below w.heap.size w (w.alloc (.cells #[.int .i64 kd, .slice va bs.length vc] 45)) := (Below.refl _ _).alloc (Nat.le_refl _) _
  obtain ⟨wd, hwd⟩ : ∃ wd, w.alloc (.cells #[.int .i64 kd, .slice va bs.length vc] 45) = wd := ⟨_, rfl⟩
  rw [hwd] at h0 hbd
  have hzd : wd.heap.size = w.heap.size + 1 := by rw [← hwd]; simp
  have d1 : wd.cell? ⟨w.heap.size, 1, none⟩ = some (.slice va bs.length vc) := by simp [World.cell?, h0]
  have dk : wd.cell? ⟨w.heap.size, 0, none⟩ = some (.int .i64 kd) := by simp [World.cell?, h0]
  have HD1 := Lib.hid (And.intro dk d1)
  have HPd := Lib.hid (h.below hbd)
  have HBd := Lib.hid hbd
  have HSd := Lib.hid hs
  have HTd := Lib.hid (show TRow wd (.slice va bs.length vc) (texts bs) from TRow.of (hs wd (hbd.mono h.le)))
  have HF := Lib.hid h
  have hlt : (texts bs).length = bs.length := texts_length bs
  have hle := h.le
  clear h h0 hbd hs dk
  go_enter Try.func19, Try.ntmps19
  go_wp2_with (at_builtin; refine wpList_append_row (w0 := wd) rfl (.const (.slice none 0 0)) (.tmp 16) rfl [] (texts bs) (.slice none 0 0) (.slice va bs.length vc) rfl rfl (Made.nil _ _) HTd.out (Below.refl _ _) (by simp [texts_length]; omega) ?_)
  intro v1 w1 m1 b1 b1'
  replace m1 : Made wd w1 v1 (texts bs) := m1
  replace b1 : Below wd.heap.size wd w1 := by rw [hzd]; exact b1
  obtain ⟨a1, c1, hv1⟩ := m1.shape
  rw [hlt] at hv1
  subst hv1
  have M1 := Lib.hid m1
  have B1 := Lib.hid b1
  have d1' : w1.cell? ⟨w.heap.size, 1, none⟩ = some (.slice va bs.length vc) := (b1.cell (by show w.heap.size < _; omega)).trans d1
  clear m1 b1 b1' d1
  go_wp2_with (at_builtin; refine wpList_append_one _ rfl _ _ 23 rfl wd.heap.size 9 (.string ⟨#[]⟩) 16 Try.underlying23 infoS rfl (.slice a1 bs.length c1) bs.length ((texts bs).map strV) rfl (by have := M1.out.owns; rw [hlt] at this; exact this) (.string (str spareT)) rfl rfl (by simp only [maxLen]; omega) (by omega) (by exact B1.out.size) ?_)
  intro v2 w2 hown2 hg2 hbl2
  rw [← hzd] at hown2
  have hb2 := hbl2 wd wd.heap.size B1.out (by omega)
  clear hbl2 hg2
  obtain ⟨a2, c2, hv2, HM2⟩ := grownT (L := texts bs) (x := spareT) (by rw [hlt]; exact hown2) hb2
  obtain ⟨g, cg, hvg, hcg, hgw, cur, hcur, hcs, hcj, hcn⟩ := HM2.out.1.open_ hlt
  rw [hvg] at hv2
  subst hv2
  have HB2 := Lib.hid hb2
  have hz2 := hb2.size
  have HP2 := Lib.hid (HPd.out.below hb2)
  have hg2l : g < w2.heap.size := (Array.getElem?_eq_some_iff.1 hcur).1
  have HGF := Lib.hid (show ∀ k, F k ∨ G k → k < w.heap.size from fun k hk => hk.elim (HF.out.p.lt k) (HF.out.r.lt k))
  have d2 : w2.cell? ⟨w.heap.size, 1, none⟩ = some (.slice va bs.length vc) := (hb2.cell (by show w.heap.size < _; omega)).trans HD1.out.2
  have d0 : w2.cell? ⟨w.heap.size, 0, none⟩ = some (.int .i64 kd) := (hb2.cell (by show w.heap.size < _; omega)).trans HD1.out.1
  have HK := Lib.hid (show ∀ W, Wr (fun k => F k ∨ G k) w2 W → Below B w W from fun W hW => ((HBd.out.mono hle).trans (HB2.out.mono (by omega))).trans (hW.below (fun k hk => hk.elim (HF.out.fB k) (HF.out.gB k)) (by omega)))
  have HCur := Lib.hid (And.intro hcur (And.intro hcs (And.intro hcj hcn)))
  have HSl := Lib.hid (show ∀ W, W.heap[g]? = w2.heap[g]? → SRow W (.slice (some ⟨g, 0, none⟩) bs.length cg) bs from fun W hW => ⟨_, cg, rfl, .inr ⟨g, 0, rfl, (Array.getElem?_eq_some_iff.1 (hW.trans hcur)).1, fun j y hy => by
    have h1 := hcj j y.data.toList (by simp [texts, hy])
    simp only [World.cell?, hW.trans hcur]
    simpa [strV, str_of] using h1⟩⟩)
  have hnog : ¬ (F g ∨ G g) := fun hk => by have := HGF.out g hk; omega
  have hnow : ¬ (F w.heap.size ∨ G w.heap.size) := fun hk => by have := HGF.out _ hk; omega
  clear hown2 hb2 hcj hcn HM2 HD1 d1' hcur
  obtain ⟨F5, G5, S5, HQ5⟩ : ∃ F5 G5 S5, Hid (Pair B w2 b x F5 G5 S5 ∧ Grew w2 F F5 ∧ Grew w2 G G5 ∧ S5.places = S.places) := ⟨_, _, _, HP2.out, Grew.refl _ _, Grew.refl _ _, rfl⟩
  have HP5 := Lib.hid HQ5.out.1
  have HGr := Lib.hid (And.intro HQ5.out.2.1 HQ5.out.2.2.1)
  have HPl := Lib.hid HQ5.out.2.2.2
  have HW5 := Lib.hid (Wr.refl (fun k => F k ∨ G k) w2)
  have HW5z := Lib.hid (Wr.refl (fun k => F k ∨ G k) w2)
  have hk5 := HK.out w2 HW5.out
  have hcur5 : w2.heap[g]? = w2.heap[g]? := HW5.out.block g hg2l hnog
  have d5 : w2.cell? ⟨w.heap.size, 1, none⟩ = some (.slice va bs.length vc) := (World.cell?_of_block (w := w2) (a := ⟨w.heap.size, 1, none⟩) (HW5.out.block _ (by simp; omega) hnow)).trans d2
  have sp5 : w2.cell? ⟨g, bs.length, none⟩ = some (.string ⟨#[115, 112, 97, 114, 101]⟩) := by
    have h1 := HCur.out.2.2.2
    simp only [World.cell?, hcur5.trans HCur.out.1]
    simpa [strV, spareT, str] using h1
  have T1 := Lib.hid (show TRow w2 (.slice (some ⟨g, 0, none⟩) bs.length cg) (texts bs) from TRow.of (HSl.out w2 hcur5))
  have T2 := Lib.hid (show TRow w2 (.slice va bs.length vc) (texts bs) from TRow.of (HSd.out w2 hk5))
  have HC5 := Lib.hid (hcur5.trans HCur.out.1)
  clear hk5 hcur5
  go_wp2_with fail
  ((with_reducible refine (same_true (texts bs) _ _ (by rw [texts_length]; omega) _ T1.out T2.out).mono ?_); rintro e w6 ⟨rfl, n6, rfl⟩)
  have d6 : (w2.drewN n6).cell? ⟨w.heap.size, 1, none⟩ = some (.slice va bs.length vc) := d5
  have sp6 : (w2.drewN n6).cell? ⟨g, bs.length, none⟩ = some (.string ⟨#[115, 112, 97, 114, 101]⟩) := sp5
  go_wp2_with fail
  go_loopw [14] (fun i wr => ∃ j : Nat, j ≤ bs.length ∧ i = .int .i64 j ∧ Hid (Wr (fun k => k = g) (w2.drewN n6) wr) ∧ Hid (∃ cc, wr.heap[g]? = some (.cells cc 9 (0, 0)) ∧ bs.length ≤ cc.size)) (fun i _ => bs.length - (intOf i).toNat)
  case atStart => exact ⟨0, Nat.zero_le _, rfl, Wr.refl _ _, ⟨cur, HC5.out, by omega⟩⟩
  case round =>
    obtain ⟨j, hj, rfl, hw, hc⟩ := hrel
    by_cases hjl : j < bs.length
    · obtain ⟨cc, hcc, hcl⟩ := hc.out
      have hx : wr.cell? ⟨g, j, none⟩ = some (cc[j]'(by omega)) := by simp only [World.cell?, hcc]; simp
      have hfx : wr.frozen? ⟨g, j, none⟩ = false := by simp only [World.frozen?, hcc]; simp
      have HCC := Lib.hid hcc
      obtain ⟨u, hu⟩ : ∃ u, cc[j]'(by omega) = u := ⟨_, rfl⟩
      rw [hu] at hx
      have hjI : (j : Int) < (bs.length : Int) := by omega
      have hj0 : (0 : Int) ≤ (j : Int) := by omega
      clear hcc hu hc
      go_wp2
      go_roundw
      case rel => exact ⟨j + 1, by omega, by go_num, hw.out.setCell (p := ⟨g, j, none⟩) rfl _, ⟨_, heap_setCell_same HCC.out, by simpa using hcl⟩⟩
      case measure => simp [intOf]; omega
    · obtain rfl : j = bs.length := by omega
      have hgk : ∀ k, F5 k ∨ G5 k → k ≠ g := fun k hk e => by
        subst e
        rcases hk with hk | hk
        · rcases HGr.out.1 _ hk with h1 | h1
          · have := HGF.out _ (.inl h1); omega
          · omega
        · rcases HGr.out.2 _ hk with h1 | h1
          · have := HGF.out _ (.inr h1); omega
          · omega
      have hP5 := HP5.out
      have hP6 := hP5.below (below_drewN (Below.refl _ _) n6)
      go_wp2
      go_ret
      have hz5 : w2.heap.size ≤ w2.heap.size := HW5.out.size
      refine ⟨rfl, F5, G5, S5, ⟨hP6.p.kept hw.out fun k hk => hgk k (.inl hk), hP6.r.kept hw.out fun k hk => hgk k (.inr hk), hP6.d, hP6.fB, hP6.gB, hP6.q, Nat.le_trans hP6.le hw.out.size⟩, HPl.out, ?_, fun k hk => (HGr.out.1 k hk).imp id (fun h1 => by omega), fun k hk => (HGr.out.2 k hk).imp id (fun h1 => by omega)⟩
      exact ((((Wr.of_below HBd.out).trans (Wr.of_below HB2.out) (Grew.refl _ _)).trans HW5z.out (Grew.refl _ _)).drewN n6).trans hw.out (fun k hk => .inr (by omega))
theorem do_any {B : Nat} {w : World} {b x : Nat} {F G : Nat → Prop} {S : SessM} (h : Pair B w b x F G S) (kd : Int) (va : Option Addr) (vc : Nat) (bs : List ByteArray) (hs : ∀ W, Below B w W → SRow W (.slice va bs.length vc) bs) (hbs : ∀ y ∈ bs, y.size ≤ maxLen) (hlen : bs.length ≤ 1048576) :
    Calls Try.prog 19 #[.pointer (some ⟨b, 0, none⟩), .pointer (some ⟨x, 0, none⟩), .agg #[.int .i64 kd, .slice va bs.length vc]] w (DoEnd B b x F G S w) := by
  by_cases h0 : kd = 0
  · subst h0; exact do_0 h va vc bs hs hbs hlen
  by_cases h1 : kd = 1
  · subst h1; exact do_1 h va vc bs hs hbs hlen
  by_cases h2 : kd = 2
  · subst h2; exact do_2 h va vc bs hs hbs hlen
  by_cases h3 : kd = 3
  · subst h3; exact do_3 h va vc bs hs hbs hlen
  by_cases h4 : kd = 4
  · subst h4; exact do_4 h va vc bs hs hbs hlen
  by_cases h5 : kd = 5
  · subst h5; exact do_5 h va vc bs hs hbs hlen
  by_cases h6 : kd = 6
  · subst h6; exact do_6 h va vc bs hs hbs hlen
  by_cases h7 : kd = 7
  · subst h7; exact do_7 h va vc bs hs hbs hlen
  by_cases h8 : kd = 8
  · subst h8; exact do_8 h va vc bs hs hbs hlen
  by_cases h9 : kd = 9
  · subst h9; exact do_9 h va vc bs hs hbs hlen
  exact do_else h kd (by rw [beq_eq_false_iff_ne]; exact h0) (by rw [beq_eq_false_iff_ne]; exact h1) (by rw [beq_eq_false_iff_ne]; exact h2) (by rw [beq_eq_false_iff_ne]; exact h3) (by rw [beq_eq_false_iff_ne]; exact h4) (by rw [beq_eq_false_iff_ne]; exact h5) (by rw [beq_eq_false_iff_ne]; exact h6) (by rw [beq_eq_false_iff_ne]; exact h7) (by rw [beq_eq_false_iff_ne]; exact h8) (by rw [beq_eq_false_iff_ne]; exact h9) va vc bs hs hbs hlen
end Go.Proofs.Ytflhcffpfiameaa
