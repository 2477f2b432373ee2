/- The law's do: a deed with both sessions. -/
import Derived.Test.YtflhcffpfiameaaSess17
namespace Go.Proofs.Ytflhcffpfiameaa
open Go.ChangeShapes Go.WideShapes Go.ChangeAt Go.RowKit Go.Maps
set_option linter.unusedVariables false

theorem grownT {w w5 : World} {v5 : Value} {L : List Tx} {x : Tx} (h : w5.ownsRow w.heap.size 9 1 v5 (L.length + 1) (L.map strV ++ [.string (str x)])) (hb : Below w.heap.size w w5) : ∃ a5 c5, v5 = .slice a5 (L.length + 1) c5 ∧ Hid (Made w w5 (.slice a5 (L.length + 1) c5) (L ++ [x]) ∧ Below w.heap.size w w5) := by
  have hM : Made w w5 v5 (L ++ [x]) := Made.of (n := L.length + 1) (by rw [List.map_append]; exact h)
  obtain ⟨a5, c5, e⟩ := hM.shape
  rw [List.length_append] at e
  exact ⟨a5, c5, e, by rw [e] at hM; exact hM, hb⟩
/-- The queue's commands are short; where MULTI was not said nothing is queued or refused. -/
def QOk (S : SessM) : Prop := (∀ r ∈ S.queue, r.length ≤ 1048576) ∧ (S.multi = false → S.refused = false ∧ S.queue = [])
theorem QOk.gone {S : SessM} : QOk S.gone := ⟨fun r hr => by simp [SessM.gone, SessM.new] at hr, fun _ => ⟨rfl, rfl⟩⟩
theorem QOk.new {n : Nat} : QOk (.new n) := ⟨fun r hr => by simp [SessM.new] at hr, fun _ => ⟨rfl, rfl⟩⟩
theorem QOk.beg {S : SessM} (h : QOk S) : QOk S.beg := ⟨h.1, fun e => by simp [SessM.beg] at e⟩
theorem QOk.ref {S : SessM} (h : QOk S) : QOk S.ref := ⟨h.1, fun e => by
  have e' : S.multi = false := e
  obtain ⟨h1, h2⟩ := h.2 e'
  exact ⟨by simp [SessM.ref, h1, e'], h2⟩⟩
theorem QOk.unw {S : SessM} (h : QOk S) : QOk S.unw := h
theorem QOk.touch {S : SessM} (h : QOk S) (bs : List ByteArray) : QOk (S.touch bs) := h
/-- Both sessions, apart, in memory from block B on. -/
structure Pair (B : Nat) (w : World) (b x : Nat) (F G : Nat → Prop) (S : SessM) : Prop where
  p : Sess w b F S
  r : RSess w x G S
  d : ∀ k, F k → ¬ G k
  fB : ∀ k, F k → B ≤ k
  gB : ∀ k, G k → B ≤ k
  q : QOk S
  le : B ≤ w.heap.size
theorem Sess.facts {w : World} {b : Nat} {F : Nat → Prop} {S : SessM} (h : Sess w b F S) : S.places ≤ 1024 ∧ S.queue.length ≤ S.places ∧ S.keys.length ≤ 1024 ∧ S.keys.Nodup := by
  obtain ⟨qv, bm, D, h⟩ := h; exact ⟨h.places, h.room, h.few, h.nodup⟩
theorem Pair.below {B : Nat} {w w' : World} {b x : Nat} {F G : Nat → Prop} {S : SessM} (h : Pair B w b x F G S) (hb : Below w.heap.size w w') : Pair B w' b x F G S :=
  ⟨h.p.below hb, h.r.below hb, h.d, h.fB, h.gB, h.q, Nat.le_trans h.le hb.size⟩
theorem Pair.ref {B : Nat} {w w1 : World} {b x : Nat} {F G : Nat → Prop} {S : SessM} (h : Pair B w b x F G S) (hw : Wr F w w1) : RSess w1 x G S := h.r.kept hw fun k hg hf => h.d k hf hg
theorem Pair.both {B : Nat} {w w1 w2 : World} {b x : Nat} {F G F' G' : Nat → Prop} {S S' : SessM} (h : Pair B w b x F G S) (hs : Sess w1 b F' S') (hg : Grew w F F') (hw : Wr F w w1) (hr : RSess w2 x G' S') (hg' : Grew w1 G G') (hw' : Wr G w1 w2) (hq : QOk S') :
    Pair B w2 b x F' G' S' ∧ Wr (fun k => F k ∨ G k) w w2 ∧ Grew w F F' ∧ Grew w G G' := by
  have hFG : ∀ k, F' k → ¬ G k := fun k hf hgk => (hg k hf).elim (fun h1 => h.d k h1 hgk) (fun h1 => by have := h.r.lt k hgk; omega)
  refine ⟨⟨hs.kept hw' hFG, hr, fun k hf hgk => (hg' k hgk).elim (hFG k hf) (fun h1 => by have := hs.lt k hf; omega), fun k hf => (hg k hf).elim (h.fB k) (fun h1 => Nat.le_trans h.le h1), fun k hgk => (hg' k hgk).elim (h.gB k) (fun h1 => Nat.le_trans h.le (Nat.le_trans hw.size h1)), hq, Nat.le_trans h.le (Nat.le_trans hw.size hw'.size)⟩, ?_, hg, fun k hgk => (hg' k hgk).imp id (fun h1 => Nat.le_trans hw.size h1)⟩
  exact (hw.mono fun k hk _ => .inl hk).trans hw' fun k hk => .inl (.inr hk)
def DoEnd (B b x : Nat) (F G : Nat → Prop) (S : SessM) (w : World) (e : Ending) (w' : World) : Prop := e = .returned (.bool true) ∧ ∃ F' G' S', Pair B w' b x F' G' S' ∧ S'.places = S.places ∧ Wr (fun k => F k ∨ G k) w w' ∧ Grew w F F' ∧ Grew w G G'
def spareT : Tx := [115, 112, 97, 114, 101]
theorem SessM.begR_is (S : SessM) : ∃ k t, S.begR = replyV k t := by unfold SessM.begR; split <;> exact ⟨_, _, rfl⟩
theorem SessM.pushR_is (S : SessM) : ∃ k t, S.pushR = replyV k t := by unfold SessM.pushR; split; exact ⟨_, _, rfl⟩; split <;> exact ⟨_, _, rfl⟩
theorem SessM.discR_is (S : SessM) : ∃ k t, S.discR = replyV k t := by unfold SessM.discR; split <;> exact ⟨_, _, rfl⟩
theorem SessM.watchR_is (S : SessM) (bs : List ByteArray) : ∃ k t, S.watchR bs = replyV k t := by unfold SessM.watchR; split; exact ⟨_, _, rfl⟩; split <;> exact ⟨_, _, rfl⟩
theorem SessM.push_places (S : SessM) (bs : List ByteArray) : (S.push bs).places = S.places := by unfold SessM.push; split; rfl; split <;> rfl
theorem SessM.watch_places (S : SessM) (bs : List ByteArray) : (S.watch bs).places = S.places := by unfold SessM.watch; split <;> rfl
theorem SessM.disc_places (S : SessM) : S.disc.places = S.places := by unfold SessM.disc; split <;> rfl
theorem SessM.exec_places (S : SessM) : S.execS.places = S.places := by unfold SessM.execS; split <;> rfl
theorem SessM.push_q {S : SessM} (h : QOk S) (bs : List ByteArray) (hb : bs.length ≤ 1048576) : QOk (S.push bs) := by
  unfold SessM.push
  split
  · exact h
  next hm =>
  split
  · exact ⟨h.1, fun e => absurd e hm⟩
  · refine ⟨fun r hr => ?_, fun e => absurd e hm⟩
    rcases List.mem_append.1 hr with h1 | h1
    · exact h.1 r h1
    · rw [List.mem_singleton.1 h1]; simpa [listsB] using hb
theorem SessM.watch_q {S : SessM} (h : QOk S) (bs : List ByteArray) : QOk (S.watch bs) := by unfold SessM.watch; split <;> exact h
theorem SessM.disc_q {S : SessM} (h : QOk S) : QOk S.disc := by
  unfold SessM.disc; split
  · exact QOk.gone
  · exact h
theorem SessM.exec_q {S : SessM} (h : QOk S) : QOk S.execS := by
  unfold SessM.execS; split
  · exact h
  · exact QOk.gone
theorem SessM.execQ_q {S : SessM} (h : QOk S) : ∀ r ∈ S.execQ, r.length ≤ 1048576 := by
  unfold SessM.execQ; split
  · exact h.1
  · intro r hr; simp at hr
theorem SessM.execQ_len {S : SessM} : S.execQ.length ≤ S.queue.length := by unfold SessM.execQ; split <;> simp
/-- The row with a text behind it: its block. -/
theorem Made.open_ {w w' : World} {v : Value} {t : List Tx} {n : Nat} (h : Made w w' v (t ++ [spareT])) (hn : t.length = n) : ∃ g cp, v = .slice (some ⟨g, 0, none⟩) (n + 1) cp ∧ n + 1 ≤ cp ∧ w.heap.size ≤ g ∧ ∃ cur, w'.heap[g]? = some (.cells cur 9 (0, 0)) ∧ n + 1 ≤ cur.size ∧ (∀ (j : Nat) x, t[j]? = some x → cur[j]? = some (strV x)) ∧ cur[n]? = some (strV spareT) := by
  subst hn
  obtain ⟨⟨h1, h2⟩, h3⟩ := h
  rw [List.length_map, List.length_append, List.length_singleton] at h2
  rcases h2 with ⟨_, e⟩ | ⟨g, cap, cur, rfl, _, hbk, h4, h5, h6, h7⟩
  · simp at e
  have hcur : ∀ j, j < t.length + 1 → cur[j]? = ((t ++ [spareT]).map strV)[j]? := fun j hj => by
    have : (cur.toList.take ((t.length + 1) * 1))[j]? = ((t ++ [spareT]).map strV)[j]? := by rw [h7]
    rw [List.getElem?_take_of_lt (by omega), Array.getElem?_toList] at this
    exact this
  refine ⟨g, cap, rfl, h4, h3 g rfl, cur, hbk, by omega, fun j x hx => ?_, ?_⟩
  · have hj := (List.getElem?_eq_some_iff.1 hx).1
    rw [hcur j (by omega), List.getElem?_map, List.getElem?_append_left hj, hx]; rfl
  · rw [hcur _ (by omega), List.getElem?_map, List.getElem?_append_right (Nat.le_refl _)]; simp

theorem reset_some {w : World} {b : Nat} {F : Nat → Prop} {S : SessM} (h : Sess w b F S) :
    Calls Try.prog 22 #[.pointer (some ⟨b, 0, none⟩)] w fun e w' => e = .returned (.tuple #[]) ∧ ∃ F', Sess w' b F' S.gone ∧ Grew w F F' ∧ Wr F w w' :=
  (reset_any h).mono fun e w' ⟨h1, h2, h3, _⟩ => ⟨h1, _, h2, fun k hk => hk.elim .inl fun e => .inr (by omega), h3⟩
theorem rreset_some {w : World} {b : Nat} {F : Nat → Prop} {S : SessM} (h : RSess w b F S) :
    Calls Try.prog 43 #[.pointer (some ⟨b, 0, none⟩)] w fun e w' => e = .returned (.tuple #[]) ∧ RSess w' b F S.gone ∧ Wr F w w' :=
  (rreset_any h).mono fun e w' ⟨h1, h2, h3, _⟩ => ⟨h1, h2, h3⟩
theorem watch_some {w : World} {b : Nat} {F : Nat → Prop} {S : SessM} (h : Sess w b F S) (v : Value) (bs : List ByteArray) (hs : SRow w v bs) (hbs : ∀ x ∈ bs, x.size ≤ maxLen) (hlen : bs.length ≤ 8796093022208) :
    Calls Try.prog 11 #[.pointer (some ⟨b, 0, none⟩), v] w fun e w' => e = .returned (S.watchR bs) ∧ ∃ F', Sess w' b F' (S.watch bs) ∧ Grew w F F' ∧ Wr F w w' := watch_any h v bs hs hbs hlen
theorem rwatch_some {w : World} {b : Nat} {F : Nat → Prop} {S : SessM} (h : RSess w b F S) (hfew : S.keys.length ≤ 1024) (hnd : S.keys.Nodup) (v : Value) (bs : List ByteArray) (hs : SRow w v bs) (hlen : bs.length ≤ 1048576) :
    Calls Try.prog 40 #[.pointer (some ⟨b, 0, none⟩), v] w fun e w' => e = .returned (S.watchR bs) ∧ ∃ F', RSess w' b F' (S.watch bs) ∧ Grew w F F' ∧ Wr F w w' := rwatch_any h hfew hnd v bs hs hlen
theorem exec_some {w : World} {b : Nat} {F : Nat → Prop} {S : SessM} (h : Sess w b F S) :
    Calls Try.prog 16 #[.pointer (some ⟨b, 0, none⟩)] w fun e w' => ∃ v F', e = .returned (.tuple #[v, .int .i64 S.execN]) ∧ RowsR w' F v S.execQ ∧ Sess w' b F' S.execS ∧ Grew w F F' ∧ Wr F w w' := exec_any h
theorem rexec_some {w : World} {b : Nat} {F : Nat → Prop} {S : SessM} (h : RSess w b F S) :
    Calls Try.prog 39 #[.pointer (some ⟨b, 0, none⟩)] w fun e w' => ∃ v, e = .returned (.tuple #[v, .int .i64 S.execN]) ∧ RowsR w' F v S.execQ ∧ RSess w' b F S.execS ∧ Wr F w w' := rexec_any h
set_option maxRecDepth 100000 in
set_option maxHeartbeats 6400000 in
theorem do_0 {B : Nat} {w : World} {b x : Nat} {F G : Nat → Prop} {S : SessM} (h : Pair B w b x F G S) (va : Option Addr) (vc : Nat) (bs : List ByteArray) (hs : ∀ W, Below B w W → SRow W (.slice va bs.length vc) bs) (hbs : ∀ y ∈ bs, y.size ≤ maxLen) (hlen : bs.length ≤ 1048576) :
    Calls Try.prog 19 #[.pointer (some ⟨b, 0, none⟩), .pointer (some ⟨x, 0, none⟩), .agg #[.int .i64 0, .slice va bs.length vc]] w (DoEnd B b x F G S w) := by
  have h0 := heap_alloc_new w (.cells #[.int .i64 0, .slice va bs.length vc] 45)
  have hbd : Below w.heap.size w (w.alloc (.cells #[.int .i64 0, .slice va bs.length vc] 45)) := (Below.refl _ _).alloc (Nat.le_refl _) _
  obtain ⟨wd, hwd⟩ : ∃ wd, w.alloc (.cells #[.int .i64 0, .slice va bs.length vc] 45) = wd := ⟨_, rfl⟩
  rw [hwd] at h0 hbd
  have hzd : wd.heap.size = w.heap.size + 1 := by rw [← hwd]; simp
  have d1 : wd.cell? ⟨w.heap.size, 1, none⟩ = some (.slice va bs.length vc) := by simp [World.cell?, h0]
  have dk : wd.cell? ⟨w.heap.size, 0, none⟩ = some (.int .i64 0) := by simp [World.cell?, h0]
  have HD1 := Lib.hid (And.intro dk d1)
  have HPd := Lib.hid (h.below hbd)
  have HBd := Lib.hid hbd
  have HSd := Lib.hid hs
  have HTd := Lib.hid (show TRow wd (.slice va bs.length vc) (texts bs) from TRow.of (hs wd (hbd.mono h.le)))
  have HF := Lib.hid h
  have hlt : (texts bs).length = bs.length := texts_length bs
  have hle := h.le
  clear h h0 hbd hs dk
  go_enter Try.func19, Try.ntmps19
  go_wp2_with (at_builtin; refine wpList_append_row (w0 := wd) rfl (.const (.slice none 0 0)) (.tmp 16) rfl [] (texts bs) (.slice none 0 0) (.slice va bs.length vc) rfl rfl (Made.nil _ _) HTd.out (Below.refl _ _) (by simp [texts_length]; omega) ?_)
  intro v1 w1 m1 b1 b1'
  replace m1 : Made wd w1 v1 (texts bs) := m1
  replace b1 : Below wd.heap.size wd w1 := by rw [hzd]; exact b1
  obtain ⟨a1, c1, hv1⟩ := m1.shape
  rw [hlt] at hv1
  subst hv1
  have M1 := Lib.hid m1
  have B1 := Lib.hid b1
  have d1' : w1.cell? ⟨w.heap.size, 1, none⟩ = some (.slice va bs.length vc) := (b1.cell (by show w.heap.size < _; omega)).trans d1
  clear m1 b1 b1' d1
  go_wp2_with (at_builtin; refine wpList_append_one _ rfl _ _ 23 rfl wd.heap.size 9 (.string ⟨#[]⟩) 16 Try.underlying23 infoS rfl (.slice a1 bs.length c1) bs.length ((texts bs).map strV) rfl (by have := M1.out.owns; rw [hlt] at this; exact this) (.string (str spareT)) rfl rfl (by simp only [maxLen]; omega) (by omega) (by exact B1.out.size) ?_)
  intro v2 w2 hown2 hg2 hbl2
  rw [← hzd] at hown2
  have hb2 := hbl2 wd wd.heap.size B1.out (by omega)
  clear hbl2 hg2
  obtain ⟨a2, c2, hv2, HM2⟩ := grownT (L := texts bs) (x := spareT) (by rw [hlt]; exact hown2) hb2
  obtain ⟨g, cg, hvg, hcg, hgw, cur, hcur, hcs, hcj, hcn⟩ := HM2.out.1.open_ hlt
  rw [hvg] at hv2
  subst hv2
  have HB2 := Lib.hid hb2
  have hz2 := hb2.size
  have HP2 := Lib.hid (HPd.out.below hb2)
  have hg2l : g < w2.heap.size := (Array.getElem?_eq_some_iff.1 hcur).1
  have HGF := Lib.hid (show ∀ k, F k ∨ G k → k < w.heap.size from fun k hk => hk.elim (HF.out.p.lt k) (HF.out.r.lt k))
  have d2 : w2.cell? ⟨w.heap.size, 1, none⟩ = some (.slice va bs.length vc) := (hb2.cell (by show w.heap.size < _; omega)).trans HD1.out.2
  have d0 : w2.cell? ⟨w.heap.size, 0, none⟩ = some (.int .i64 0) := (hb2.cell (by show w.heap.size < _; omega)).trans HD1.out.1
  have HK := Lib.hid (show ∀ W, Wr (fun k => F k ∨ G k) w2 W → Below B w W from fun W hW => ((HBd.out.mono hle).trans (HB2.out.mono (by omega))).trans (hW.below (fun k hk => hk.elim (HF.out.fB k) (HF.out.gB k)) (by omega)))
  have HCur := Lib.hid (And.intro hcur (And.intro hcs (And.intro hcj hcn)))
  have HSl := Lib.hid (show ∀ W, W.heap[g]? = w2.heap[g]? → SRow W (.slice (some ⟨g, 0, none⟩) bs.length cg) bs from fun W hW => ⟨_, cg, rfl, .inr ⟨g, 0, rfl, (Array.getElem?_eq_some_iff.1 (hW.trans hcur)).1, fun j y hy => by
    have h1 := hcj j y.data.toList (by simp [texts, hy])
    simp only [World.cell?, hW.trans hcur]
    simpa [strV, str_of] using h1⟩⟩)
  have hnog : ¬ (F g ∨ G g) := fun hk => by have := HGF.out g hk; omega
  have hnow : ¬ (F w.heap.size ∨ G w.heap.size) := fun hk => by have := HGF.out _ hk; omega
  clear hown2 hb2 hcj hcn HM2 HD1 d1' hcur
  obtain ⟨rk, rt, hR⟩ := S.begR_is
  have HCp := begin_any HP2.out.p
  rw [hR] at HCp
  replace HCp := Lib.hid HCp
  go_wp2_with fail
  (refine HCp.out.mono ?_; rintro e w3 ⟨rfl, s3, r3⟩)
  have d3 : w3.cell? ⟨w.heap.size, 1, none⟩ = some (.slice va bs.length vc) := (World.cell?_of_block (w := w2) (a := ⟨w.heap.size, 1, none⟩) (r3.block _ (by show w.heap.size < w2.heap.size; omega) (fun h => hnow (.inl h)))).trans d2
  have HRc := rbegin_any (HP2.out.ref r3)
  rw [hR] at HRc
  replace HRc := Lib.hid HRc
  have H3 := Lib.hid (And.intro s3 (And.intro (Grew.refl w2 F) r3))
  clear s3 r3
  go_wp2_with fail
  (refine HRc.out.mono ?_; rintro e w4 ⟨rfl, s4, r4⟩)
  have B4 := Lib.hid (HP2.out.both (S' := S.beg) H3.out.1 H3.out.2.1 H3.out.2.2 s4 (Grew.refl _ _) r4 (QOk.beg HP2.out.q))
  clear s4 r4
  go_wp2_with fail
  ((with_reducible refine (same3 _ _ _).mono ?_); rintro e w5 ⟨rfl, b5⟩)
  have HW5 := Lib.hid (B4.out.2.1.trans (Wr.of_below b5) (Grew.refl _ _))
  have HW5z := Lib.hid (show Wr (fun k => F k ∨ G k) w2 w5 from (by first | exact HW5.out | exact (Wr.of_below (Below.refl _ _).drew).trans HW5.out (Grew.refl _ _)))
  obtain ⟨F5, G5, S5, HQ5⟩ : ∃ F5 G5 S5, Hid (Pair B w5 b x F5 G5 S5 ∧ Grew w2 F F5 ∧ Grew w2 G G5 ∧ S5.places = S.places) := ⟨_, _, _, B4.out.1.below b5, B4.out.2.2.1, B4.out.2.2.2, by first | rfl | rfl⟩
  have HP5 := Lib.hid HQ5.out.1
  have HGr := Lib.hid (And.intro HQ5.out.2.1 HQ5.out.2.2.1)
  have HPl := Lib.hid HQ5.out.2.2.2
  clear b5
  have hk5 := HK.out w5 HW5.out
  have hcur5 : w5.heap[g]? = w2.heap[g]? := HW5.out.block g hg2l hnog
  have d5 : w5.cell? ⟨w.heap.size, 1, none⟩ = some (.slice va bs.length vc) := (World.cell?_of_block (w := w2) (a := ⟨w.heap.size, 1, none⟩) (HW5.out.block _ (by simp; omega) hnow)).trans d2
  have sp5 : w5.cell? ⟨g, bs.length, none⟩ = some (.string ⟨#[115, 112, 97, 114, 101]⟩) := by
    have h1 := HCur.out.2.2.2
    simp only [World.cell?, hcur5.trans HCur.out.1]
    simpa [strV, spareT, str] using h1
  have T1 := Lib.hid (show TRow w5 (.slice (some ⟨g, 0, none⟩) bs.length cg) (texts bs) from TRow.of (HSl.out w5 hcur5))
  have T2 := Lib.hid (show TRow w5 (.slice va bs.length vc) (texts bs) from TRow.of (HSd.out w5 hk5))
  have HC5 := Lib.hid (hcur5.trans HCur.out.1)
  clear hk5 hcur5 d2 d0
  go_wp2_with fail
  ((with_reducible refine (same_true (texts bs) _ _ (by rw [texts_length]; omega) _ T1.out T2.out).mono ?_); rintro e w6 ⟨rfl, n6, rfl⟩)
  have d6 : (w5.drewN n6).cell? ⟨w.heap.size, 1, none⟩ = some (.slice va bs.length vc) := d5
  have sp6 : (w5.drewN n6).cell? ⟨g, bs.length, none⟩ = some (.string ⟨#[115, 112, 97, 114, 101]⟩) := sp5
  go_wp2_with fail
  go_loopw [14] (fun i wr => ∃ j : Nat, j ≤ bs.length ∧ i = .int .i64 j ∧ Hid (Wr (fun k => k = g) (w5.drewN n6) wr) ∧ Hid (∃ cc, wr.heap[g]? = some (.cells cc 9 (0, 0)) ∧ bs.length ≤ cc.size)) (fun i _ => bs.length - (intOf i).toNat)
  case atStart => exact ⟨0, Nat.zero_le _, rfl, Wr.refl _ _, ⟨cur, HC5.out, by omega⟩⟩
  case round =>
    obtain ⟨j, hj, rfl, hw, hc⟩ := hrel
    by_cases hjl : j < bs.length
    · obtain ⟨cc, hcc, hcl⟩ := hc.out
      have hx : wr.cell? ⟨g, j, none⟩ = some (cc[j]'(by omega)) := by simp only [World.cell?, hcc]; simp
      have hfx : wr.frozen? ⟨g, j, none⟩ = false := by simp only [World.frozen?, hcc]; simp
      have HCC := Lib.hid hcc
      obtain ⟨u, hu⟩ : ∃ u, cc[j]'(by omega) = u := ⟨_, rfl⟩
      rw [hu] at hx
      have hjI : (j : Int) < (bs.length : Int) := by omega
      have hj0 : (0 : Int) ≤ (j : Int) := by omega
      clear hcc hu hc
      go_wp2
      go_roundw
      case rel => exact ⟨j + 1, by omega, by go_num, hw.out.setCell (p := ⟨g, j, none⟩) rfl _, ⟨_, heap_setCell_same HCC.out, by simpa using hcl⟩⟩
      case measure => simp [intOf]; omega
    · obtain rfl : j = bs.length := by omega
      have hgk : ∀ k, F5 k ∨ G5 k → k ≠ g := fun k hk e => by
        subst e
        rcases hk with hk | hk
        · rcases HGr.out.1 _ hk with h1 | h1
          · have := HGF.out _ (.inl h1); omega
          · omega
        · rcases HGr.out.2 _ hk with h1 | h1
          · have := HGF.out _ (.inr h1); omega
          · omega
      have hP5 := HP5.out
      have hP6 := hP5.below (below_drewN (Below.refl _ _) n6)
      go_wp2
      go_ret
      have hz5 : w2.heap.size ≤ w5.heap.size := HW5.out.size
      refine ⟨rfl, F5, G5, S5, ⟨hP6.p.kept hw.out fun k hk => hgk k (.inl hk), hP6.r.kept hw.out fun k hk => hgk k (.inr hk), hP6.d, hP6.fB, hP6.gB, hP6.q, Nat.le_trans hP6.le hw.out.size⟩, HPl.out, ?_, fun k hk => (HGr.out.1 k hk).imp id (fun h1 => by omega), fun k hk => (HGr.out.2 k hk).imp id (fun h1 => by omega)⟩
      exact ((((Wr.of_below HBd.out).trans (Wr.of_below HB2.out) (Grew.refl _ _)).trans HW5z.out (Grew.refl _ _)).drewN n6).trans hw.out (fun k hk => .inr (by omega))
set_option maxRecDepth 100000 in
set_option maxHeartbeats 6400000 in
theorem do_1 {B : Nat} {w : World} {b x : Nat} {F G : Nat → Prop} {S : SessM} (h : Pair B w b x F G S) (va : Option Addr) (vc : Nat) (bs : List ByteArray) (hs : ∀ W, Below B w W → SRow W (.slice va bs.length vc) bs) (hbs : ∀ y ∈ bs, y.size ≤ maxLen) (hlen : bs.length ≤ 1048576) :
    Calls Try.prog 19 #[.pointer (some ⟨b, 0, none⟩), .pointer (some ⟨x, 0, none⟩), .agg #[.int .i64 1, .slice va bs.length vc]] w (DoEnd B b x F G S w) := by
  have h0 := heap_alloc_new w (.cells #[.int .i64 1, .slice va bs.length vc] 45)
  have hbd : Below w.heap.size w (w.alloc (.cells #[.int .i64 1, .slice va bs.length vc] 45)) := (Below.refl _ _).alloc (Nat.le_refl _) _
  obtain ⟨wd, hwd⟩ : ∃ wd, w.alloc (.cells #[.int .i64 1, .slice va bs.length vc] 45) = wd := ⟨_, rfl⟩
  rw [hwd] at h0 hbd
  have hzd : wd.heap.size = w.heap.size + 1 := by rw [← hwd]; simp
  have d1 : wd.cell? ⟨w.heap.size, 1, none⟩ = some (.slice va bs.length vc) := by simp [World.cell?, h0]
  have dk : wd.cell? ⟨w.heap.size, 0, none⟩ = some (.int .i64 1) := by simp [World.cell?, h0]
  have HD1 := Lib.hid (And.intro dk d1)
  have HPd := Lib.hid (h.below hbd)
  have HBd := Lib.hid hbd
  have HSd := Lib.hid hs
  have HTd := Lib.hid (show TRow wd (.slice va bs.length vc) (texts bs) from TRow.of (hs wd (hbd.mono h.le)))
  have HF := Lib.hid h
  have hlt : (texts bs).length = bs.length := texts_length bs
  have hle := h.le
  clear h h0 hbd hs dk
  go_enter Try.func19, Try.ntmps19
  go_wp2_with (at_builtin; refine wpList_append_row (w0 := wd) rfl (.const (.slice none 0 0)) (.tmp 16) rfl [] (texts bs) (.slice none 0 0) (.slice va bs.length vc) rfl rfl (Made.nil _ _) HTd.out (Below.refl _ _) (by simp [texts_length]; omega) ?_)
  intro v1 w1 m1 b1 b1'
  replace m1 : Made wd w1 v1 (texts bs) := m1
  replace b1 : Below wd.heap.size wd w1 := by rw [hzd]; exact b1
  obtain ⟨a1, c1, hv1⟩ := m1.shape
  rw [hlt] at hv1
  subst hv1
  have M1 := Lib.hid m1
  have B1 := Lib.hid b1
  have d1' : w1.cell? ⟨w.heap.size, 1, none⟩ = some (.slice va bs.length vc) := (b1.cell (by show w.heap.size < _; omega)).trans d1
  clear m1 b1 b1' d1
  go_wp2_with (at_builtin; refine wpList_append_one _ rfl _ _ 23 rfl wd.heap.size 9 (.string ⟨#[]⟩) 16 Try.underlying23 infoS rfl (.slice a1 bs.length c1) bs.length ((texts bs).map strV) rfl (by have := M1.out.owns; rw [hlt] at this; exact this) (.string (str spareT)) rfl rfl (by simp only [maxLen]; omega) (by omega) (by exact B1.out.size) ?_)
  intro v2 w2 hown2 hg2 hbl2
  rw [← hzd] at hown2
  have hb2 := hbl2 wd wd.heap.size B1.out (by omega)
  clear hbl2 hg2
  obtain ⟨a2, c2, hv2, HM2⟩ := grownT (L := texts bs) (x := spareT) (by rw [hlt]; exact hown2) hb2
  obtain ⟨g, cg, hvg, hcg, hgw, cur, hcur, hcs, hcj, hcn⟩ := HM2.out.1.open_ hlt
  rw [hvg] at hv2
  subst hv2
  have HB2 := Lib.hid hb2
  have hz2 := hb2.size
  have HP2 := Lib.hid (HPd.out.below hb2)
  have hg2l : g < w2.heap.size := (Array.getElem?_eq_some_iff.1 hcur).1
  have HGF := Lib.hid (show ∀ k, F k ∨ G k → k < w.heap.size from fun k hk => hk.elim (HF.out.p.lt k) (HF.out.r.lt k))
  have d2 : w2.cell? ⟨w.heap.size, 1, none⟩ = some (.slice va bs.length vc) := (hb2.cell (by show w.heap.size < _; omega)).trans HD1.out.2
  have d0 : w2.cell? ⟨w.heap.size, 0, none⟩ = some (.int .i64 1) := (hb2.cell (by show w.heap.size < _; omega)).trans HD1.out.1
  have HK := Lib.hid (show ∀ W, Wr (fun k => F k ∨ G k) w2 W → Below B w W from fun W hW => ((HBd.out.mono hle).trans (HB2.out.mono (by omega))).trans (hW.below (fun k hk => hk.elim (HF.out.fB k) (HF.out.gB k)) (by omega)))
  have HCur := Lib.hid (And.intro hcur (And.intro hcs (And.intro hcj hcn)))
  have HSl := Lib.hid (show ∀ W, W.heap[g]? = w2.heap[g]? → SRow W (.slice (some ⟨g, 0, none⟩) bs.length cg) bs from fun W hW => ⟨_, cg, rfl, .inr ⟨g, 0, rfl, (Array.getElem?_eq_some_iff.1 (hW.trans hcur)).1, fun j y hy => by
    have h1 := hcj j y.data.toList (by simp [texts, hy])
    simp only [World.cell?, hW.trans hcur]
    simpa [strV, str_of] using h1⟩⟩)
  have hnog : ¬ (F g ∨ G g) := fun hk => by have := HGF.out g hk; omega
  have hnow : ¬ (F w.heap.size ∨ G w.heap.size) := fun hk => by have := HGF.out _ hk; omega
  clear hown2 hb2 hcj hcn HM2 HD1 d1' hcur
  go_wp2_with fail
  replace HP2 := Lib.hid (HP2.out.below (Below.refl _ _).drew)
  replace HK := Lib.hid (show ∀ W, Wr (fun k => F k ∨ G k) w2.drew W → Below B w W from fun W hW => HK.out W ((Wr.of_below (Below.refl _ _).drew).trans hW (Grew.refl _ _)))
  replace d2 : w2.drew.cell? ⟨w.heap.size, 1, none⟩ = some (.slice va bs.length vc) := d2
  obtain ⟨rk, rt, hR⟩ := S.pushR_is
  have HCp := queue_any HP2.out.p _ bs (HSl.out _ rfl) (by omega)
  rw [hR] at HCp
  replace HCp := Lib.hid HCp
  refine wp_region_held_drew (S := (fun W => W.cell? ⟨w.heap.size, 1, none⟩ = some (.slice va bs.length vc))) (by kernel_rfl) ?_ (fun hHeld => ?_)
  · exact d2
  refine wpAnyH_take (i := 0) (oi := (Go.Oper.mk (some 37) (Go.Op.move (Go.Operand.tmp 0)) 24 _ #[] none)) (v := ?_) rfl (by kernel_rfl) (by kernel_rfl) (by kernel_rfl) (fun _ _ _ h => h) (Or.inl ⟨by rfl, ?_⟩) hHeld ?_
  rotate_left
  · intro w hSw; (try dsimp only at hSw); go_simp; (try with_reducible rfl)
  simp only [Act.put, List.setIfInBounds_toArray, List.set_cons_zero, List.set_cons_succ]
  refine wpAnyH_take (i := 1) (oi := (Go.Oper.mk (some 38) (Go.Op.move (Go.Operand.tmp 8)) 23 _ #[] none)) (v := ?_) rfl (by kernel_rfl) (by kernel_rfl) (by kernel_rfl) (fun _ _ _ h => h) (Or.inl ⟨by rfl, ?_⟩) hHeld ?_
  rotate_left
  · intro w hSw; (try dsimp only at hSw); go_simp; (try with_reducible rfl)
  simp only [Act.put, List.setIfInBounds_toArray, List.set_cons_zero, List.set_cons_succ]
  refine wpAnyH_take (i := 3) (oi := (Go.Oper.mk (some 40) (Go.Op.move (Go.Operand.tmp 1)) 39 _ #[] none)) (v := ?_) rfl (by kernel_rfl) (by kernel_rfl) (by kernel_rfl) (fun _ _ _ h => h) (Or.inl ⟨by rfl, ?_⟩) hHeld ?_
  rotate_left
  · intro w hSw; (try dsimp only at hSw); go_simp; (try with_reducible rfl)
  simp only [Act.put, List.setIfInBounds_toArray, List.set_cons_zero, List.set_cons_succ]
  refine wpAnyH_take (i := 4) (oi := (Go.Oper.mk (some 41) (Go.Op.fieldAddr 45 (Go.Operand.tmp 5) 1) 0 _ #[] none)) (v := ?_) rfl (by kernel_rfl) (by kernel_rfl) (by kernel_rfl) (fun _ _ _ h => h) (Or.inl ⟨by rfl, ?_⟩) hHeld ?_
  rotate_left
  · intro w hSw; (try dsimp only at hSw); go_simp; (try with_reducible rfl)
  simp only [Act.put, List.setIfInBounds_toArray, List.set_cons_zero, List.set_cons_succ]
  refine wpAnyH_take (i := 5) (oi := (Go.Oper.mk (some 42) (Go.Op.load 23 (Go.Operand.tmp 41)) 23 _ #[Go.Edge.mk 4 Go.Ground.data] none)) (v := ?_) rfl (by kernel_rfl) (by kernel_rfl) (by kernel_rfl) (fun _ _ _ h => h) (Or.inl ⟨by rfl, ?_⟩) hHeld ?_
  rotate_left
  · intro w hSw; (try dsimp only at hSw); go_simp; (try with_reducible rfl)
  simp only [Act.put, List.setIfInBounds_toArray, List.set_cons_zero, List.set_cons_succ]
  refine wpAnyH_ready (rs := [2]) (by kernel_rfl) (by simp) ?_
  refine (AllReadyH.cons (o := (Go.Oper.mk (some 39) (Go.Op.call (Go.Call.mk (Go.Callee.value (Go.Operand.func 14)) #[Go.Operand.tmp 37, Go.Operand.tmp 38] #[24, 23])) 31 _ #[Go.Edge.mk 0 Go.Ground.data, Go.Edge.mk 1 Go.Ground.data] none)) rfl (fun K hK => ?_) AllReadyH.nil)
  · skip
    go_simp
    (refine HCp.out.mono ?_; rintro e w3 ⟨F3, rfl, s3, g3, r3⟩; have d3 : w3.cell? ⟨w.heap.size, 1, none⟩ = some (.slice va bs.length vc) := (World.cell?_of_block (w := w2.drew) (a := ⟨w.heap.size, 1, none⟩) (r3.block _ (by show w.heap.size < w2.heap.size; omega) (fun h => hnow (.inl h)))).trans d2; have HRc := rqueue_any (HP2.out.ref r3) HP2.out.p.facts.1 HP2.out.p.facts.2.1 _ bs (HSd.out w3 (HK.out w3 (r3.mono fun k hk _ => .inl hk))) hlen; rw [hR] at HRc; replace HRc := Lib.hid HRc; have H3 := Lib.hid (And.intro s3 (And.intro g3 r3)); clear s3 r3)
    go_wp2_with fail
    refine hK.out _ _ ?_ (fun hHeld => ?_)
    · exact d3
    clear hK K
    (try simp only [Act.put, List.setIfInBounds_toArray, List.set_cons_zero, List.set_cons_succ])
    refine wpAnyH_ready (rs := [6]) (by kernel_rfl) (by simp) ?_
    refine (AllReadyH.cons (o := (Go.Oper.mk (some 43) (Go.Op.call (Go.Call.mk (Go.Callee.value (Go.Operand.func 36)) #[Go.Operand.tmp 40, Go.Operand.tmp 42] #[39, 23])) 31 _ #[Go.Edge.mk 3 Go.Ground.data, Go.Edge.mk 5 Go.Ground.data, Go.Edge.mk 2 Go.Ground.chain] none)) rfl (fun K hK => ?_) AllReadyH.nil)
    · skip
      go_simp
      (refine HRc.out.mono ?_; rintro e w4 ⟨rfl, G4, s4, g4, r4⟩; have B4 := Lib.hid (HP2.out.both (S' := (S.push bs)) H3.out.1 H3.out.2.1 H3.out.2.2 s4 g4 r4 (SessM.push_q HP2.out.q bs hlen)); have d4 : w4.cell? ⟨w.heap.size, 1, none⟩ = some (.slice va bs.length vc) := (World.cell?_of_block (w := w2.drew) (a := ⟨w.heap.size, 1, none⟩) (B4.out.2.1.block _ (by show w.heap.size < w2.heap.size; omega) hnow)).trans d2; clear s4 r4)
      go_wp2_with fail
      refine hK.out _ _ ?_ (fun hHeld => ?_)
      · exact d4
      clear hK K
      (try simp only [Act.put, List.setIfInBounds_toArray, List.set_cons_zero, List.set_cons_succ])
      refine wpAnyH_ready (rs := [7]) (by kernel_rfl) (by simp) ?_
      refine (AllReadyH.cons (o := (Go.Oper.mk (some 44) (Go.Op.call (Go.Call.mk (Go.Callee.value (Go.Operand.func 34)) #[Go.Operand.tmp 39, Go.Operand.tmp 43] #[31, 31])) 4 _ #[Go.Edge.mk 2 Go.Ground.data, Go.Edge.mk 6 Go.Ground.data, Go.Edge.mk 6 Go.Ground.chain] none)) rfl (fun K hK => ?_) AllReadyH.nil)
      · skip
        go_simp
        ((with_reducible refine (same3 _ _ _).mono ?_); rintro e w5 ⟨rfl, b5⟩; have d5 : w5.cell? ⟨w.heap.size, 1, none⟩ = some (.slice va bs.length vc) := (b5.cell (by show w.heap.size < w4.heap.size; have : w2.heap.size ≤ w4.heap.size := B4.out.2.1.size; omega)).trans d4)
        go_wp2_with fail
        refine hK.out _ _ ?_ (fun hHeld => ?_)
        · exact d5
        clear hK K
        (try simp only [Act.put, List.setIfInBounds_toArray, List.set_cons_zero, List.set_cons_succ])
        refine wpAnyH_take (i := 8) (oi := (Go.Oper.mk (some 9) (Go.Op.assign (Go.Operand.tmp 44)) 4 _ #[Go.Edge.mk 7 Go.Ground.data, Go.Edge.mk 7 Go.Ground.chain, Go.Edge.mk 0 Go.Ground.phase, Go.Edge.mk 1 Go.Ground.phase, Go.Edge.mk 2 Go.Ground.phase, Go.Edge.mk 3 Go.Ground.phase, Go.Edge.mk 4 Go.Ground.phase, Go.Edge.mk 5 Go.Ground.phase, Go.Edge.mk 6 Go.Ground.phase, Go.Edge.mk 7 Go.Ground.phase] none)) (v := ?_) rfl (by kernel_rfl) (by kernel_rfl) (by kernel_rfl) (fun _ _ _ h => h) (Or.inl ⟨by rfl, ?_⟩) hHeld ?_
        rotate_left
        · intro w hSw; (try dsimp only at hSw); go_simp; (try with_reducible rfl)
        simp only [Act.put, List.setIfInBounds_toArray, List.set_cons_zero, List.set_cons_succ]
        refine wpAnyH_done (by kernel_rfl) ?_ _
        have HW5 := Lib.hid (B4.out.2.1.trans (Wr.of_below b5) (Grew.refl _ _))
        have HW5z := Lib.hid (show Wr (fun k => F k ∨ G k) w2 w5 from (by first | exact HW5.out | exact (Wr.of_below (Below.refl _ _).drew).trans HW5.out (Grew.refl _ _)))
        obtain ⟨F5, G5, S5, HQ5⟩ : ∃ F5 G5 S5, Hid (Pair B w5 b x F5 G5 S5 ∧ Grew w2 F F5 ∧ Grew w2 G G5 ∧ S5.places = S.places) := ⟨_, _, _, B4.out.1.below b5, B4.out.2.2.1, B4.out.2.2.2, by first | rfl | exact S.push_places bs⟩
        have HP5 := Lib.hid HQ5.out.1
        have HGr := Lib.hid (And.intro HQ5.out.2.1 HQ5.out.2.2.1)
        have HPl := Lib.hid HQ5.out.2.2.2
        clear b5
        have hk5 := HK.out w5 HW5.out
        have hcur5 : w5.heap[g]? = w2.heap[g]? := HW5.out.block g hg2l hnog
        have d5 : w5.cell? ⟨w.heap.size, 1, none⟩ = some (.slice va bs.length vc) := (World.cell?_of_block (w := w2) (a := ⟨w.heap.size, 1, none⟩) (HW5.out.block _ (by simp; omega) hnow)).trans d2
        have sp5 : w5.cell? ⟨g, bs.length, none⟩ = some (.string ⟨#[115, 112, 97, 114, 101]⟩) := by
          have h1 := HCur.out.2.2.2
          simp only [World.cell?, hcur5.trans HCur.out.1]
          simpa [strV, spareT, str] using h1
        have T1 := Lib.hid (show TRow w5 (.slice (some ⟨g, 0, none⟩) bs.length cg) (texts bs) from TRow.of (HSl.out w5 hcur5))
        have T2 := Lib.hid (show TRow w5 (.slice va bs.length vc) (texts bs) from TRow.of (HSd.out w5 hk5))
        have HC5 := Lib.hid (hcur5.trans HCur.out.1)
        clear hk5 hcur5 d2 d0
        go_wp2_with fail
        ((with_reducible refine (same_true (texts bs) _ _ (by rw [texts_length]; omega) _ T1.out T2.out).mono ?_); rintro e w6 ⟨rfl, n6, rfl⟩)
        have d6 : (w5.drewN n6).cell? ⟨w.heap.size, 1, none⟩ = some (.slice va bs.length vc) := d5
        have sp6 : (w5.drewN n6).cell? ⟨g, bs.length, none⟩ = some (.string ⟨#[115, 112, 97, 114, 101]⟩) := sp5
        go_wp2_with fail
        go_loopw [14] (fun i wr => ∃ j : Nat, j ≤ bs.length ∧ i = .int .i64 j ∧ Hid (Wr (fun k => k = g) (w5.drewN n6) wr) ∧ Hid (∃ cc, wr.heap[g]? = some (.cells cc 9 (0, 0)) ∧ bs.length ≤ cc.size)) (fun i _ => bs.length - (intOf i).toNat)
        case atStart => exact ⟨0, Nat.zero_le _, rfl, Wr.refl _ _, ⟨cur, HC5.out, by omega⟩⟩
        case round =>
          obtain ⟨j, hj, rfl, hw, hc⟩ := hrel
          by_cases hjl : j < bs.length
          · obtain ⟨cc, hcc, hcl⟩ := hc.out
            have hx : wr.cell? ⟨g, j, none⟩ = some (cc[j]'(by omega)) := by simp only [World.cell?, hcc]; simp
            have hfx : wr.frozen? ⟨g, j, none⟩ = false := by simp only [World.frozen?, hcc]; simp
            have HCC := Lib.hid hcc
            obtain ⟨u, hu⟩ : ∃ u, cc[j]'(by omega) = u := ⟨_, rfl⟩
            rw [hu] at hx
            have hjI : (j : Int) < (bs.length : Int) := by omega
            have hj0 : (0 : Int) ≤ (j : Int) := by omega
            clear hcc hu hc
            go_wp2
            go_roundw
            case rel => exact ⟨j + 1, by omega, by go_num, hw.out.setCell (p := ⟨g, j, none⟩) rfl _, ⟨_, heap_setCell_same HCC.out, by simpa using hcl⟩⟩
            case measure => simp [intOf]; omega
          · obtain rfl : j = bs.length := by omega
            have hgk : ∀ k, F5 k ∨ G5 k → k ≠ g := fun k hk e => by
              subst e
              rcases hk with hk | hk
              · rcases HGr.out.1 _ hk with h1 | h1
                · have := HGF.out _ (.inl h1); omega
                · omega
              · rcases HGr.out.2 _ hk with h1 | h1
                · have := HGF.out _ (.inr h1); omega
                · omega
            have hP5 := HP5.out
            have hP6 := hP5.below (below_drewN (Below.refl _ _) n6)
            go_wp2
            go_ret
            have hz5 : w2.heap.size ≤ w5.heap.size := HW5.out.size
            refine ⟨rfl, F5, G5, S5, ⟨hP6.p.kept hw.out fun k hk => hgk k (.inl hk), hP6.r.kept hw.out fun k hk => hgk k (.inr hk), hP6.d, hP6.fB, hP6.gB, hP6.q, Nat.le_trans hP6.le hw.out.size⟩, HPl.out, ?_, fun k hk => (HGr.out.1 k hk).imp id (fun h1 => by omega), fun k hk => (HGr.out.2 k hk).imp id (fun h1 => by omega)⟩
            exact ((((Wr.of_below HBd.out).trans (Wr.of_below HB2.out) (Grew.refl _ _)).trans HW5z.out (Grew.refl _ _)).drewN n6).trans hw.out (fun k hk => .inr (by omega))
set_option maxRecDepth 100000 in
set_option maxHeartbeats 6400000 in
theorem do_2 {B : Nat} {w : World} {b x : Nat} {F G : Nat → Prop} {S : SessM} (h : Pair B w b x F G S) (va : Option Addr) (vc : Nat) (bs : List ByteArray) (hs : ∀ W, Below B w W → SRow W (.slice va bs.length vc) bs) (hbs : ∀ y ∈ bs, y.size ≤ maxLen) (hlen : bs.length ≤ 1048576) :
    Calls Try.prog 19 #[.pointer (some ⟨b, 0, none⟩), .pointer (some ⟨x, 0, none⟩), .agg #[.int .i64 2, .slice va bs.length vc]] w (DoEnd B b x F G S w) := by
  have h0 := heap_alloc_new w (.cells #[.int .i64 2, .slice va bs.length vc] 45)
  have hbd : Below w.heap.size w (w.alloc (.cells #[.int .i64 2, .slice va bs.length vc] 45)) := (Below.refl _ _).alloc (Nat.le_refl _) _
  obtain ⟨wd, hwd⟩ : ∃ wd, w.alloc (.cells #[.int .i64 2, .slice va bs.length vc] 45) = wd := ⟨_, rfl⟩
  rw [hwd] at h0 hbd
  have hzd : wd.heap.size = w.heap.size + 1 := by rw [← hwd]; simp
  have d1 : wd.cell? ⟨w.heap.size, 1, none⟩ = some (.slice va bs.length vc) := by simp [World.cell?, h0]
  have dk : wd.cell? ⟨w.heap.size, 0, none⟩ = some (.int .i64 2) := by simp [World.cell?, h0]
  have HD1 := Lib.hid (And.intro dk d1)
  have HPd := Lib.hid (h.below hbd)
  have HBd := Lib.hid hbd
  have HSd := Lib.hid hs
  have HTd := Lib.hid (show TRow wd (.slice va bs.length vc) (texts bs) from TRow.of (hs wd (hbd.mono h.le)))
  have HF := Lib.hid h
  have hlt : (texts bs).length = bs.length := texts_length bs
  have hle := h.le
  clear h h0 hbd hs dk
  go_enter Try.func19, Try.ntmps19
  go_wp2_with (at_builtin; refine wpList_append_row (w0 := wd) rfl (.const (.slice none 0 0)) (.tmp 16) rfl [] (texts bs) (.slice none 0 0) (.slice va bs.length vc) rfl rfl (Made.nil _ _) HTd.out (Below.refl _ _) (by simp [texts_length]; omega) ?_)
  intro v1 w1 m1 b1 b1'
  replace m1 : Made wd w1 v1 (texts bs) := m1
  replace b1 : Below wd.heap.size wd w1 := by rw [hzd]; exact b1
  obtain ⟨a1, c1, hv1⟩ := m1.shape
  rw [hlt] at hv1
  subst hv1
  have M1 := Lib.hid m1
  have B1 := Lib.hid b1
  have d1' : w1.cell? ⟨w.heap.size, 1, none⟩ = some (.slice va bs.length vc) := (b1.cell (by show w.heap.size < _; omega)).trans d1
  clear m1 b1 b1' d1
  go_wp2_with (at_builtin; refine wpList_append_one _ rfl _ _ 23 rfl wd.heap.size 9 (.string ⟨#[]⟩) 16 Try.underlying23 infoS rfl (.slice a1 bs.length c1) bs.length ((texts bs).map strV) rfl (by have := M1.out.owns; rw [hlt] at this; exact this) (.string (str spareT)) rfl rfl (by simp only [maxLen]; omega) (by omega) (by exact B1.out.size) ?_)
  intro v2 w2 hown2 hg2 hbl2
  rw [← hzd] at hown2
  have hb2 := hbl2 wd wd.heap.size B1.out (by omega)
  clear hbl2 hg2
  obtain ⟨a2, c2, hv2, HM2⟩ := grownT (L := texts bs) (x := spareT) (by rw [hlt]; exact hown2) hb2
  obtain ⟨g, cg, hvg, hcg, hgw, cur, hcur, hcs, hcj, hcn⟩ := HM2.out.1.open_ hlt
  rw [hvg] at hv2
  subst hv2
  have HB2 := Lib.hid hb2
  have hz2 := hb2.size
  have HP2 := Lib.hid (HPd.out.below hb2)
  have hg2l : g < w2.heap.size := (Array.getElem?_eq_some_iff.1 hcur).1
  have HGF := Lib.hid (show ∀ k, F k ∨ G k → k < w.heap.size from fun k hk => hk.elim (HF.out.p.lt k) (HF.out.r.lt k))
  have d2 : w2.cell? ⟨w.heap.size, 1, none⟩ = some (.slice va bs.length vc) := (hb2.cell (by show w.heap.size < _; omega)).trans HD1.out.2
  have d0 : w2.cell? ⟨w.heap.size, 0, none⟩ = some (.int .i64 2) := (hb2.cell (by show w.heap.size < _; omega)).trans HD1.out.1
  have HK := Lib.hid (show ∀ W, Wr (fun k => F k ∨ G k) w2 W → Below B w W from fun W hW => ((HBd.out.mono hle).trans (HB2.out.mono (by omega))).trans (hW.below (fun k hk => hk.elim (HF.out.fB k) (HF.out.gB k)) (by omega)))
  have HCur := Lib.hid (And.intro hcur (And.intro hcs (And.intro hcj hcn)))
  have HSl := Lib.hid (show ∀ W, W.heap[g]? = w2.heap[g]? → SRow W (.slice (some ⟨g, 0, none⟩) bs.length cg) bs from fun W hW => ⟨_, cg, rfl, .inr ⟨g, 0, rfl, (Array.getElem?_eq_some_iff.1 (hW.trans hcur)).1, fun j y hy => by
    have h1 := hcj j y.data.toList (by simp [texts, hy])
    simp only [World.cell?, hW.trans hcur]
    simpa [strV, str_of] using h1⟩⟩)
  have hnog : ¬ (F g ∨ G g) := fun hk => by have := HGF.out g hk; omega
  have hnow : ¬ (F w.heap.size ∨ G w.heap.size) := fun hk => by have := HGF.out _ hk; omega
  clear hown2 hb2 hcj hcn HM2 HD1 d1' hcur
  go_wp2_with fail
  replace HP2 := Lib.hid (HP2.out.below (Below.refl _ _).drew)
  replace HK := Lib.hid (show ∀ W, Wr (fun k => F k ∨ G k) w2.drew W → Below B w W from fun W hW => HK.out W ((Wr.of_below (Below.refl _ _).drew).trans hW (Grew.refl _ _)))
  replace d2 : w2.drew.cell? ⟨w.heap.size, 1, none⟩ = some (.slice va bs.length vc) := d2
  obtain ⟨rk, rt, hR⟩ := S.pushR_is
  have HCp := queue_any HP2.out.p _ bs (HSl.out _ rfl) (by omega)
  rw [hR] at HCp
  replace HCp := Lib.hid HCp
  refine wp_region_held_drew (S := (fun W => W.cell? ⟨w.heap.size, 1, none⟩ = some (.slice va bs.length vc))) (by kernel_rfl) ?_ (fun hHeld => ?_)
  · exact d2
  refine wpAnyH_take (i := 0) (oi := (Go.Oper.mk (some 37) (Go.Op.move (Go.Operand.tmp 0)) 24 _ #[] none)) (v := ?_) rfl (by kernel_rfl) (by kernel_rfl) (by kernel_rfl) (fun _ _ _ h => h) (Or.inl ⟨by rfl, ?_⟩) hHeld ?_
  rotate_left
  · intro w hSw; (try dsimp only at hSw); go_simp; (try with_reducible rfl)
  simp only [Act.put, List.setIfInBounds_toArray, List.set_cons_zero, List.set_cons_succ]
  refine wpAnyH_take (i := 1) (oi := (Go.Oper.mk (some 38) (Go.Op.move (Go.Operand.tmp 8)) 23 _ #[] none)) (v := ?_) rfl (by kernel_rfl) (by kernel_rfl) (by kernel_rfl) (fun _ _ _ h => h) (Or.inl ⟨by rfl, ?_⟩) hHeld ?_
  rotate_left
  · intro w hSw; (try dsimp only at hSw); go_simp; (try with_reducible rfl)
  simp only [Act.put, List.setIfInBounds_toArray, List.set_cons_zero, List.set_cons_succ]
  refine wpAnyH_take (i := 3) (oi := (Go.Oper.mk (some 40) (Go.Op.move (Go.Operand.tmp 1)) 39 _ #[] none)) (v := ?_) rfl (by kernel_rfl) (by kernel_rfl) (by kernel_rfl) (fun _ _ _ h => h) (Or.inl ⟨by rfl, ?_⟩) hHeld ?_
  rotate_left
  · intro w hSw; (try dsimp only at hSw); go_simp; (try with_reducible rfl)
  simp only [Act.put, List.setIfInBounds_toArray, List.set_cons_zero, List.set_cons_succ]
  refine wpAnyH_take (i := 4) (oi := (Go.Oper.mk (some 41) (Go.Op.fieldAddr 45 (Go.Operand.tmp 5) 1) 0 _ #[] none)) (v := ?_) rfl (by kernel_rfl) (by kernel_rfl) (by kernel_rfl) (fun _ _ _ h => h) (Or.inl ⟨by rfl, ?_⟩) hHeld ?_
  rotate_left
  · intro w hSw; (try dsimp only at hSw); go_simp; (try with_reducible rfl)
  simp only [Act.put, List.setIfInBounds_toArray, List.set_cons_zero, List.set_cons_succ]
  refine wpAnyH_take (i := 5) (oi := (Go.Oper.mk (some 42) (Go.Op.load 23 (Go.Operand.tmp 41)) 23 _ #[Go.Edge.mk 4 Go.Ground.data] none)) (v := ?_) rfl (by kernel_rfl) (by kernel_rfl) (by kernel_rfl) (fun _ _ _ h => h) (Or.inl ⟨by rfl, ?_⟩) hHeld ?_
  rotate_left
  · intro w hSw; (try dsimp only at hSw); go_simp; (try with_reducible rfl)
  simp only [Act.put, List.setIfInBounds_toArray, List.set_cons_zero, List.set_cons_succ]
  refine wpAnyH_ready (rs := [2]) (by kernel_rfl) (by simp) ?_
  refine (AllReadyH.cons (o := (Go.Oper.mk (some 39) (Go.Op.call (Go.Call.mk (Go.Callee.value (Go.Operand.func 14)) #[Go.Operand.tmp 37, Go.Operand.tmp 38] #[24, 23])) 31 _ #[Go.Edge.mk 0 Go.Ground.data, Go.Edge.mk 1 Go.Ground.data] none)) rfl (fun K hK => ?_) AllReadyH.nil)
  · skip
    go_simp
    (refine HCp.out.mono ?_; rintro e w3 ⟨F3, rfl, s3, g3, r3⟩; have d3 : w3.cell? ⟨w.heap.size, 1, none⟩ = some (.slice va bs.length vc) := (World.cell?_of_block (w := w2.drew) (a := ⟨w.heap.size, 1, none⟩) (r3.block _ (by show w.heap.size < w2.heap.size; omega) (fun h => hnow (.inl h)))).trans d2; have HRc := rqueue_any (HP2.out.ref r3) HP2.out.p.facts.1 HP2.out.p.facts.2.1 _ bs (HSd.out w3 (HK.out w3 (r3.mono fun k hk _ => .inl hk))) hlen; rw [hR] at HRc; replace HRc := Lib.hid HRc; have H3 := Lib.hid (And.intro s3 (And.intro g3 r3)); clear s3 r3)
    go_wp2_with fail
    refine hK.out _ _ ?_ (fun hHeld => ?_)
    · exact d3
    clear hK K
    (try simp only [Act.put, List.setIfInBounds_toArray, List.set_cons_zero, List.set_cons_succ])
    refine wpAnyH_ready (rs := [6]) (by kernel_rfl) (by simp) ?_
    refine (AllReadyH.cons (o := (Go.Oper.mk (some 43) (Go.Op.call (Go.Call.mk (Go.Callee.value (Go.Operand.func 36)) #[Go.Operand.tmp 40, Go.Operand.tmp 42] #[39, 23])) 31 _ #[Go.Edge.mk 3 Go.Ground.data, Go.Edge.mk 5 Go.Ground.data, Go.Edge.mk 2 Go.Ground.chain] none)) rfl (fun K hK => ?_) AllReadyH.nil)
    · skip
      go_simp
      (refine HRc.out.mono ?_; rintro e w4 ⟨rfl, G4, s4, g4, r4⟩; have B4 := Lib.hid (HP2.out.both (S' := (S.push bs)) H3.out.1 H3.out.2.1 H3.out.2.2 s4 g4 r4 (SessM.push_q HP2.out.q bs hlen)); have d4 : w4.cell? ⟨w.heap.size, 1, none⟩ = some (.slice va bs.length vc) := (World.cell?_of_block (w := w2.drew) (a := ⟨w.heap.size, 1, none⟩) (B4.out.2.1.block _ (by show w.heap.size < w2.heap.size; omega) hnow)).trans d2; clear s4 r4)
      go_wp2_with fail
      refine hK.out _ _ ?_ (fun hHeld => ?_)
      · exact d4
      clear hK K
      (try simp only [Act.put, List.setIfInBounds_toArray, List.set_cons_zero, List.set_cons_succ])
      refine wpAnyH_ready (rs := [7]) (by kernel_rfl) (by simp) ?_
      refine (AllReadyH.cons (o := (Go.Oper.mk (some 44) (Go.Op.call (Go.Call.mk (Go.Callee.value (Go.Operand.func 34)) #[Go.Operand.tmp 39, Go.Operand.tmp 43] #[31, 31])) 4 _ #[Go.Edge.mk 2 Go.Ground.data, Go.Edge.mk 6 Go.Ground.data, Go.Edge.mk 6 Go.Ground.chain] none)) rfl (fun K hK => ?_) AllReadyH.nil)
      · skip
        go_simp
        ((with_reducible refine (same3 _ _ _).mono ?_); rintro e w5 ⟨rfl, b5⟩; have d5 : w5.cell? ⟨w.heap.size, 1, none⟩ = some (.slice va bs.length vc) := (b5.cell (by show w.heap.size < w4.heap.size; have : w2.heap.size ≤ w4.heap.size := B4.out.2.1.size; omega)).trans d4)
        go_wp2_with fail
        refine hK.out _ _ ?_ (fun hHeld => ?_)
        · exact d5
        clear hK K
        (try simp only [Act.put, List.setIfInBounds_toArray, List.set_cons_zero, List.set_cons_succ])
        refine wpAnyH_take (i := 8) (oi := (Go.Oper.mk (some 9) (Go.Op.assign (Go.Operand.tmp 44)) 4 _ #[Go.Edge.mk 7 Go.Ground.data, Go.Edge.mk 7 Go.Ground.chain, Go.Edge.mk 0 Go.Ground.phase, Go.Edge.mk 1 Go.Ground.phase, Go.Edge.mk 2 Go.Ground.phase, Go.Edge.mk 3 Go.Ground.phase, Go.Edge.mk 4 Go.Ground.phase, Go.Edge.mk 5 Go.Ground.phase, Go.Edge.mk 6 Go.Ground.phase, Go.Edge.mk 7 Go.Ground.phase] none)) (v := ?_) rfl (by kernel_rfl) (by kernel_rfl) (by kernel_rfl) (fun _ _ _ h => h) (Or.inl ⟨by rfl, ?_⟩) hHeld ?_
        rotate_left
        · intro w hSw; (try dsimp only at hSw); go_simp; (try with_reducible rfl)
        simp only [Act.put, List.setIfInBounds_toArray, List.set_cons_zero, List.set_cons_succ]
        refine wpAnyH_done (by kernel_rfl) ?_ _
        have HW5 := Lib.hid (B4.out.2.1.trans (Wr.of_below b5) (Grew.refl _ _))
        have HW5z := Lib.hid (show Wr (fun k => F k ∨ G k) w2 w5 from (by first | exact HW5.out | exact (Wr.of_below (Below.refl _ _).drew).trans HW5.out (Grew.refl _ _)))
        obtain ⟨F5, G5, S5, HQ5⟩ : ∃ F5 G5 S5, Hid (Pair B w5 b x F5 G5 S5 ∧ Grew w2 F F5 ∧ Grew w2 G G5 ∧ S5.places = S.places) := ⟨_, _, _, B4.out.1.below b5, B4.out.2.2.1, B4.out.2.2.2, by first | rfl | exact S.push_places bs⟩
        have HP5 := Lib.hid HQ5.out.1
        have HGr := Lib.hid (And.intro HQ5.out.2.1 HQ5.out.2.2.1)
        have HPl := Lib.hid HQ5.out.2.2.2
        clear b5
        have hk5 := HK.out w5 HW5.out
        have hcur5 : w5.heap[g]? = w2.heap[g]? := HW5.out.block g hg2l hnog
        have d5 : w5.cell? ⟨w.heap.size, 1, none⟩ = some (.slice va bs.length vc) := (World.cell?_of_block (w := w2) (a := ⟨w.heap.size, 1, none⟩) (HW5.out.block _ (by simp; omega) hnow)).trans d2
        have sp5 : w5.cell? ⟨g, bs.length, none⟩ = some (.string ⟨#[115, 112, 97, 114, 101]⟩) := by
          have h1 := HCur.out.2.2.2
          simp only [World.cell?, hcur5.trans HCur.out.1]
          simpa [strV, spareT, str] using h1
        have T1 := Lib.hid (show TRow w5 (.slice (some ⟨g, 0, none⟩) bs.length cg) (texts bs) from TRow.of (HSl.out w5 hcur5))
        have T2 := Lib.hid (show TRow w5 (.slice va bs.length vc) (texts bs) from TRow.of (HSd.out w5 hk5))
        have HC5 := Lib.hid (hcur5.trans HCur.out.1)
        clear hk5 hcur5 d2 d0
        go_wp2_with fail
        ((with_reducible refine (same_true (texts bs) _ _ (by rw [texts_length]; omega) _ T1.out T2.out).mono ?_); rintro e w6 ⟨rfl, n6, rfl⟩)
        have d6 : (w5.drewN n6).cell? ⟨w.heap.size, 1, none⟩ = some (.slice va bs.length vc) := d5
        have sp6 : (w5.drewN n6).cell? ⟨g, bs.length, none⟩ = some (.string ⟨#[115, 112, 97, 114, 101]⟩) := sp5
        go_wp2_with fail
        go_loopw [14] (fun i wr => ∃ j : Nat, j ≤ bs.length ∧ i = .int .i64 j ∧ Hid (Wr (fun k => k = g) (w5.drewN n6) wr) ∧ Hid (∃ cc, wr.heap[g]? = some (.cells cc 9 (0, 0)) ∧ bs.length ≤ cc.size)) (fun i _ => bs.length - (intOf i).toNat)
        case atStart => exact ⟨0, Nat.zero_le _, rfl, Wr.refl _ _, ⟨cur, HC5.out, by omega⟩⟩
        case round =>
          obtain ⟨j, hj, rfl, hw, hc⟩ := hrel
          by_cases hjl : j < bs.length
          · obtain ⟨cc, hcc, hcl⟩ := hc.out
            have hx : wr.cell? ⟨g, j, none⟩ = some (cc[j]'(by omega)) := by simp only [World.cell?, hcc]; simp
            have hfx : wr.frozen? ⟨g, j, none⟩ = false := by simp only [World.frozen?, hcc]; simp
            have HCC := Lib.hid hcc
            obtain ⟨u, hu⟩ : ∃ u, cc[j]'(by omega) = u := ⟨_, rfl⟩
            rw [hu] at hx
            have hjI : (j : Int) < (bs.length : Int) := by omega
            have hj0 : (0 : Int) ≤ (j : Int) := by omega
            clear hcc hu hc
            go_wp2
            go_roundw
            case rel => exact ⟨j + 1, by omega, by go_num, hw.out.setCell (p := ⟨g, j, none⟩) rfl _, ⟨_, heap_setCell_same HCC.out, by simpa using hcl⟩⟩
            case measure => simp [intOf]; omega
          · obtain rfl : j = bs.length := by omega
            have hgk : ∀ k, F5 k ∨ G5 k → k ≠ g := fun k hk e => by
              subst e
              rcases hk with hk | hk
              · rcases HGr.out.1 _ hk with h1 | h1
                · have := HGF.out _ (.inl h1); omega
                · omega
              · rcases HGr.out.2 _ hk with h1 | h1
                · have := HGF.out _ (.inr h1); omega
                · omega
            have hP5 := HP5.out
            have hP6 := hP5.below (below_drewN (Below.refl _ _) n6)
            go_wp2
            go_ret
            have hz5 : w2.heap.size ≤ w5.heap.size := HW5.out.size
            refine ⟨rfl, F5, G5, S5, ⟨hP6.p.kept hw.out fun k hk => hgk k (.inl hk), hP6.r.kept hw.out fun k hk => hgk k (.inr hk), hP6.d, hP6.fB, hP6.gB, hP6.q, Nat.le_trans hP6.le hw.out.size⟩, HPl.out, ?_, fun k hk => (HGr.out.1 k hk).imp id (fun h1 => by omega), fun k hk => (HGr.out.2 k hk).imp id (fun h1 => by omega)⟩
            exact ((((Wr.of_below HBd.out).trans (Wr.of_below HB2.out) (Grew.refl _ _)).trans HW5z.out (Grew.refl _ _)).drewN n6).trans hw.out (fun k hk => .inr (by omega))
set_option maxRecDepth 100000 in
set_option maxHeartbeats 6400000 in
theorem do_3 {B : Nat} {w : World} {b x : Nat} {F G : Nat → Prop} {S : SessM} (h : Pair B w b x F G S) (va : Option Addr) (vc : Nat) (bs : List ByteArray) (hs : ∀ W, Below B w W → SRow W (.slice va bs.length vc) bs) (hbs : ∀ y ∈ bs, y.size ≤ maxLen) (hlen : bs.length ≤ 1048576) :
    Calls Try.prog 19 #[.pointer (some ⟨b, 0, none⟩), .pointer (some ⟨x, 0, none⟩), .agg #[.int .i64 3, .slice va bs.length vc]] w (DoEnd B b x F G S w) := by
  have h0 := heap_alloc_new w (.cells #[.int .i64 3, .slice va bs.length vc] 45)
  have hbd : Below w.heap.size w (w.alloc (.cells #[.int .i64 3, .slice va bs.length vc] 45)) := (Below.refl _ _).alloc (Nat.le_refl _) _
  obtain ⟨wd, hwd⟩ : ∃ wd, w.alloc (.cells #[.int .i64 3, .slice va bs.length vc] 45) = wd := ⟨_, rfl⟩
  rw [hwd] at h0 hbd
  have hzd : wd.heap.size = w.heap.size + 1 := by rw [← hwd]; simp
  have d1 : wd.cell? ⟨w.heap.size, 1, none⟩ = some (.slice va bs.length vc) := by simp [World.cell?, h0]
  have dk : wd.cell? ⟨w.heap.size, 0, none⟩ = some (.int .i64 3) := by simp [World.cell?, h0]
  have HD1 := Lib.hid (And.intro dk d1)
  have HPd := Lib.hid (h.below hbd)
  have HBd := Lib.hid hbd
  have HSd := Lib.hid hs
  have HTd := Lib.hid (show TRow wd (.slice va bs.length vc) (texts bs) from TRow.of (hs wd (hbd.mono h.le)))
  have HF := Lib.hid h
  have hlt : (texts bs).length = bs.length := texts_length bs
  have hle := h.le
  clear h h0 hbd hs dk
  go_enter Try.func19, Try.ntmps19
  go_wp2_with (at_builtin; refine wpList_append_row (w0 := wd) rfl (.const (.slice none 0 0)) (.tmp 16) rfl [] (texts bs) (.slice none 0 0) (.slice va bs.length vc) rfl rfl (Made.nil _ _) HTd.out (Below.refl _ _) (by simp [texts_length]; omega) ?_)
  intro v1 w1 m1 b1 b1'
  replace m1 : Made wd w1 v1 (texts bs) := m1
  replace b1 : Below wd.heap.size wd w1 := by rw [hzd]; exact b1
  obtain ⟨a1, c1, hv1⟩ := m1.shape
  rw [hlt] at hv1
  subst hv1
  have M1 := Lib.hid m1
  have B1 := Lib.hid b1
  have d1' : w1.cell? ⟨w.heap.size, 1, none⟩ = some (.slice va bs.length vc) := (b1.cell (by show w.heap.size < _; omega)).trans d1
  clear m1 b1 b1' d1
  go_wp2_with (at_builtin; refine wpList_append_one _ rfl _ _ 23 rfl wd.heap.size 9 (.string ⟨#[]⟩) 16 Try.underlying23 infoS rfl (.slice a1 bs.length c1) bs.length ((texts bs).map strV) rfl (by have := M1.out.owns; rw [hlt] at this; exact this) (.string (str spareT)) rfl rfl (by simp only [maxLen]; omega) (by omega) (by exact B1.out.size) ?_)
  intro v2 w2 hown2 hg2 hbl2
  rw [← hzd] at hown2
  have hb2 := hbl2 wd wd.heap.size B1.out (by omega)
  clear hbl2 hg2
  obtain ⟨a2, c2, hv2, HM2⟩ := grownT (L := texts bs) (x := spareT) (by rw [hlt]; exact hown2) hb2
  obtain ⟨g, cg, hvg, hcg, hgw, cur, hcur, hcs, hcj, hcn⟩ := HM2.out.1.open_ hlt
  rw [hvg] at hv2
  subst hv2
  have HB2 := Lib.hid hb2
  have hz2 := hb2.size
  have HP2 := Lib.hid (HPd.out.below hb2)
  have hg2l : g < w2.heap.size := (Array.getElem?_eq_some_iff.1 hcur).1
  have HGF := Lib.hid (show ∀ k, F k ∨ G k → k < w.heap.size from fun k hk => hk.elim (HF.out.p.lt k) (HF.out.r.lt k))
  have d2 : w2.cell? ⟨w.heap.size, 1, none⟩ = some (.slice va bs.length vc) := (hb2.cell (by show w.heap.size < _; omega)).trans HD1.out.2
  have d0 : w2.cell? ⟨w.heap.size, 0, none⟩ = some (.int .i64 3) := (hb2.cell (by show w.heap.size < _; omega)).trans HD1.out.1
  have HK := Lib.hid (show ∀ W, Wr (fun k => F k ∨ G k) w2 W → Below B w W from fun W hW => ((HBd.out.mono hle).trans (HB2.out.mono (by omega))).trans (hW.below (fun k hk => hk.elim (HF.out.fB k) (HF.out.gB k)) (by omega)))
  have HCur := Lib.hid (And.intro hcur (And.intro hcs (And.intro hcj hcn)))
  have HSl := Lib.hid (show ∀ W, W.heap[g]? = w2.heap[g]? → SRow W (.slice (some ⟨g, 0, none⟩) bs.length cg) bs from fun W hW => ⟨_, cg, rfl, .inr ⟨g, 0, rfl, (Array.getElem?_eq_some_iff.1 (hW.trans hcur)).1, fun j y hy => by
    have h1 := hcj j y.data.toList (by simp [texts, hy])
    simp only [World.cell?, hW.trans hcur]
    simpa [strV, str_of] using h1⟩⟩)
  have hnog : ¬ (F g ∨ G g) := fun hk => by have := HGF.out g hk; omega
  have hnow : ¬ (F w.heap.size ∨ G w.heap.size) := fun hk => by have := HGF.out _ hk; omega
  clear hown2 hb2 hcj hcn HM2 HD1 d1' hcur
  have HCp := refuse_any HP2.out.p
  replace HCp := Lib.hid HCp
  go_wp2_with fail
  (refine HCp.out.mono ?_; rintro e w3 ⟨rfl, s3, r3⟩)
  have d3 : w3.cell? ⟨w.heap.size, 1, none⟩ = some (.slice va bs.length vc) := (World.cell?_of_block (w := w2) (a := ⟨w.heap.size, 1, none⟩) (r3.block _ (by show w.heap.size < w2.heap.size; omega) (fun h => hnow (.inl h)))).trans d2
  have HRc := rrefuse_any (HP2.out.ref r3)
  replace HRc := Lib.hid HRc
  have H3 := Lib.hid (And.intro s3 (And.intro (Grew.refl w2 F) r3))
  clear s3 r3
  go_wp2_with fail
  (refine HRc.out.mono ?_; rintro e w4 ⟨rfl, s4, r4⟩)
  have B4 := Lib.hid (HP2.out.both (S' := S.ref) H3.out.1 H3.out.2.1 H3.out.2.2 s4 (Grew.refl _ _) r4 (QOk.ref HP2.out.q))
  clear s4 r4
  obtain ⟨w5, hw45⟩ : ∃ w5, w5 = w4 := ⟨_, rfl⟩
  subst hw45
  have b5 : Below w5.heap.size w5 w5 := Below.refl _ _
  have HW5 := Lib.hid (B4.out.2.1.trans (Wr.of_below b5) (Grew.refl _ _))
  have HW5z := Lib.hid (show Wr (fun k => F k ∨ G k) w2 w5 from (by first | exact HW5.out | exact (Wr.of_below (Below.refl _ _).drew).trans HW5.out (Grew.refl _ _)))
  obtain ⟨F5, G5, S5, HQ5⟩ : ∃ F5 G5 S5, Hid (Pair B w5 b x F5 G5 S5 ∧ Grew w2 F F5 ∧ Grew w2 G G5 ∧ S5.places = S.places) := ⟨_, _, _, B4.out.1.below b5, B4.out.2.2.1, B4.out.2.2.2, by first | rfl | rfl⟩
  have HP5 := Lib.hid HQ5.out.1
  have HGr := Lib.hid (And.intro HQ5.out.2.1 HQ5.out.2.2.1)
  have HPl := Lib.hid HQ5.out.2.2.2
  clear b5
  have hk5 := HK.out w5 HW5.out
  have hcur5 : w5.heap[g]? = w2.heap[g]? := HW5.out.block g hg2l hnog
  have d5 : w5.cell? ⟨w.heap.size, 1, none⟩ = some (.slice va bs.length vc) := (World.cell?_of_block (w := w2) (a := ⟨w.heap.size, 1, none⟩) (HW5.out.block _ (by simp; omega) hnow)).trans d2
  have sp5 : w5.cell? ⟨g, bs.length, none⟩ = some (.string ⟨#[115, 112, 97, 114, 101]⟩) := by
    have h1 := HCur.out.2.2.2
    simp only [World.cell?, hcur5.trans HCur.out.1]
    simpa [strV, spareT, str] using h1
  have T1 := Lib.hid (show TRow w5 (.slice (some ⟨g, 0, none⟩) bs.length cg) (texts bs) from TRow.of (HSl.out w5 hcur5))
  have T2 := Lib.hid (show TRow w5 (.slice va bs.length vc) (texts bs) from TRow.of (HSd.out w5 hk5))
  have HC5 := Lib.hid (hcur5.trans HCur.out.1)
  clear hk5 hcur5 d2 d0
  go_wp2_with fail
  ((with_reducible refine (same_true (texts bs) _ _ (by rw [texts_length]; omega) _ T1.out T2.out).mono ?_); rintro e w6 ⟨rfl, n6, rfl⟩)
  have d6 : (w5.drewN n6).cell? ⟨w.heap.size, 1, none⟩ = some (.slice va bs.length vc) := d5
  have sp6 : (w5.drewN n6).cell? ⟨g, bs.length, none⟩ = some (.string ⟨#[115, 112, 97, 114, 101]⟩) := sp5
  go_wp2_with fail
  go_loopw [14] (fun i wr => ∃ j : Nat, j ≤ bs.length ∧ i = .int .i64 j ∧ Hid (Wr (fun k => k = g) (w5.drewN n6) wr) ∧ Hid (∃ cc, wr.heap[g]? = some (.cells cc 9 (0, 0)) ∧ bs.length ≤ cc.size)) (fun i _ => bs.length - (intOf i).toNat)
  case atStart => exact ⟨0, Nat.zero_le _, rfl, Wr.refl _ _, ⟨cur, HC5.out, by omega⟩⟩
  case round =>
    obtain ⟨j, hj, rfl, hw, hc⟩ := hrel
    by_cases hjl : j < bs.length
    · obtain ⟨cc, hcc, hcl⟩ := hc.out
      have hx : wr.cell? ⟨g, j, none⟩ = some (cc[j]'(by omega)) := by simp only [World.cell?, hcc]; simp
      have hfx : wr.frozen? ⟨g, j, none⟩ = false := by simp only [World.frozen?, hcc]; simp
      have HCC := Lib.hid hcc
      obtain ⟨u, hu⟩ : ∃ u, cc[j]'(by omega) = u := ⟨_, rfl⟩
      rw [hu] at hx
      have hjI : (j : Int) < (bs.length : Int) := by omega
      have hj0 : (0 : Int) ≤ (j : Int) := by omega
      clear hcc hu hc
      go_wp2
      go_roundw
      case rel => exact ⟨j + 1, by omega, by go_num, hw.out.setCell (p := ⟨g, j, none⟩) rfl _, ⟨_, heap_setCell_same HCC.out, by simpa using hcl⟩⟩
      case measure => simp [intOf]; omega
    · obtain rfl : j = bs.length := by omega
      have hgk : ∀ k, F5 k ∨ G5 k → k ≠ g := fun k hk e => by
        subst e
        rcases hk with hk | hk
        · rcases HGr.out.1 _ hk with h1 | h1
          · have := HGF.out _ (.inl h1); omega
          · omega
        · rcases HGr.out.2 _ hk with h1 | h1
          · have := HGF.out _ (.inr h1); omega
          · omega
      have hP5 := HP5.out
      have hP6 := hP5.below (below_drewN (Below.refl _ _) n6)
      go_wp2
      go_ret
      have hz5 : w2.heap.size ≤ w5.heap.size := HW5.out.size
      refine ⟨rfl, F5, G5, S5, ⟨hP6.p.kept hw.out fun k hk => hgk k (.inl hk), hP6.r.kept hw.out fun k hk => hgk k (.inr hk), hP6.d, hP6.fB, hP6.gB, hP6.q, Nat.le_trans hP6.le hw.out.size⟩, HPl.out, ?_, fun k hk => (HGr.out.1 k hk).imp id (fun h1 => by omega), fun k hk => (HGr.out.2 k hk).imp id (fun h1 => by omega)⟩
      exact ((((Wr.of_below HBd.out).trans (Wr.of_below HB2.out) (Grew.refl _ _)).trans HW5z.out (Grew.refl _ _)).drewN n6).trans hw.out (fun k hk => .inr (by omega))
end Go.Proofs.Ytflhcffpfiameaa
