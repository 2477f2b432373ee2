/- The walk of SessionNone. -/
import Derived.Test.YtflhcffpfiameaaSMem1
import Derived.Test.YtflhcffpfiameaaSessAbortsW
namespace Go.Proofs.Ytflhcffpfiameaa
open Go.ChangeShapes Go.WideShapes Go.ChangeAt Go.RowKit Go.Maps
set_option linter.unusedVariables false

theorem QRow.spared {B : Nat} {w w' : World} {v : Value} {q : List (List ByteArray)} (h : QRow B w v q) (hb : ∀ k, B ≤ k → k < w.heap.size → w'.heap[k]? = w.heap[k]?) : QRow B w' v q := by
  obtain ⟨xs, h1, h2, h3, h4⟩ := h
  refine ⟨xs, h1, ⟨h2.1, h2.2.imp id ?_⟩, h3, fun i x bs a b => (h4 i x bs a b).kept_by fun k cur hk hc => hb k hk (Array.getElem?_eq_some_iff.1 hc).1⟩
  rintro ⟨g, cap, cur, rfl, e1, e2, e3⟩
  exact ⟨g, cap, cur, rfl, e1, (hb g (h3 g rfl) (Array.getElem?_eq_some_iff.1 e2).1).trans e2, e3⟩
theorem ZRow.spared {B : Nat} {w w' : World} {v : Value} {bs : List ByteArray} (h : ZRow B w v bs) (hb : ∀ k, B ≤ k → k < w.heap.size → w'.heap[k]? = w.heap[k]?) : ZRow B w' v bs := h.kept_by fun k cur hk hc => hb k hk (Array.getElem?_eq_some_iff.1 hc).1
section
variable {rest : List Oper} {ops : Array Oper} {o : Oper} {a : Act} {Q : Exit → Act → World → Prop}
/-- 'v = append(v, u)' of a row of slices, whatever u is. -/
theorem wpList_append_u (w : World) (hgd : o.guard = none) (s x : Operand) (ho : o.op = .call { callee := .builtin .append, args := #[s, x], argTypes := #[22, 22] })
    (v : Value) (n : Nat) (xs : List Value) (hs : a.eval s = v) (ho2 : w.ownsRow 0 23 1 v n xs) (u : Value) (h1 : u.oneCell' = true)
    (hx : a.eval x = .slice (some ⟨w.heap.size, 0, none⟩) 1 1) (hlen : n ≤ 1073741824)
    (h : ∀ v' w', w'.ownsRow 0 23 1 v' (n + 1) (xs ++ [u]) → w.grownBy w' v.ownBlock → wpList Try.prog ops Q rest (a.put o.dst v') w') :
    wpList Try.prog ops Q (o :: rest) a (w.alloc (.cells #[u] 23)) := by
  obtain ⟨i, hi, hz, hsz, hby⟩ := info_parts infoRow
  refine wpList_plain hgd fun K hK => ?_
  obtain ⟨v', w', hr, h2, h3, h4, h5⟩ := run_append_own_at (P := Try.prog) (w.alloc (.cells #[u] 23)) 0 22 o.type 23 i _ 1 24 Try.underlying22 hi hz hsz hby rfl (by omega) v _ _ (World.ownsRow.alloc ho2 _) ⟨w.heap.size, 0, none⟩ 1 1 [u] rfl
    (fun j y hj => by
      rcases j with _ | j
      · simp at hj; subst hj
        have : (⟨w.heap.size, 0, none⟩ : Addr).add 0 = ⟨w.heap.size, 0, none⟩ := by unfold Addr.add; split <;> simp_all
        rw [this]
        have hh := heap_alloc_new w (.cells #[u] 23)
        unfold World.cell?
        rw [hh]; rfl
      · simp at hj) (by simp [h1]) (by unfold maxLen; omega) (by omega) (by omega)
  unfold Oper.wp execOp
  simp only [ho, resolve, invoke, builtin, Sem.run_bind, Sem.run_pure, Result.andThen_ok, List.map_toArray, List.map_cons, List.map_nil, hs, hx, hr]
  exact hK _ _ (h v' w' h2 (World.grownBy.trans (World.grownBy_alloc w _ _) h3))
end
theorem field_text (k : Int) (t : ByteArray) (w : World) : (Instr.field 31 (replyV k t) 1).run Try.prog w = .ok (.string t) w := by kernel_rfl
theorem field_kind (k : Int) (t : ByteArray) (w : World) : (Instr.field 31 (replyV k t) 0).run Try.prog w = .ok (.int .i64 k) w := by kernel_rfl
/-- One row, and it not empty. -/
theorem QRow.one {B : Nat} {w : World} {v : Value} {bs : List ByteArray} (h : QRow B w v [bs]) (n : Nat) (hn : bs.length = n) (hb : 0 < n) : ∃ g c gx cx, v = .slice (some ⟨g, 0, none⟩) 1 c ∧ B ≤ g ∧ g < w.heap.size ∧ B ≤ gx ∧ gx < w.heap.size ∧ g ≠ gx ∧
    Row w (fun k => k = g) 23 (.slice (some ⟨g, 0, none⟩) 1 c) [.slice (some ⟨gx, 0, none⟩) n cx] ∧ ZRow B w (.slice (some ⟨gx, 0, none⟩) n cx) bs := by
  subst hn
  obtain ⟨xs, h1, h2, h3, h4⟩ := h
  obtain ⟨u, rfl⟩ : ∃ u, xs = [u] := List.length_eq_one_iff.1 h1
  have hz := h4 0 u bs rfl rfl
  rcases hz with ⟨_, e⟩ | ⟨gx, cx, cur, rfl, z1, z2, z3⟩
  · rw [e] at hb; simp at hb
  rcases h2.2 with ⟨_, e⟩ | ⟨g, cap, cur2, rfl, e1, e2, e3⟩
  · simp at e
  refine ⟨g, cap, gx, cx, rfl, h3 g rfl, (Array.getElem?_eq_some_iff.1 e2).1, z1, (Array.getElem?_eq_some_iff.1 z2).1, ?_, ⟨h2, fun k hk => by simp [Value.ownBlock] at hk; exact hk.symm⟩, .inr ⟨gx, cx, cur, rfl, z1, z2, z3⟩⟩
  rintro rfl
  rw [e2] at z2; simp at z2
theorem ZRow.some_ {B : Nat} {w : World} {v : Value} {bs : List ByteArray} (h : ZRow B w v bs) (n : Nat) (hn : bs.length = n) (hb : 0 < n) : ∃ g c, v = .slice (some ⟨g, 0, none⟩) n c ∧ B ≤ g ∧ g < w.heap.size ∧ (∃ cur, w.heap[g]? = some (.cells cur 9 (0, 0))) ∧ ∀ (j : Nat) x, bs[j]? = some x → w.cell? ⟨g, j, none⟩ = some (.string x) := by
  subst hn
  rcases h with ⟨_, e⟩ | ⟨g, cap, cur, rfl, h1, h2, h3, h4, h5, h6⟩
  · rw [e] at hb; simp at hb
  · exact ⟨g, cap, rfl, h1, (Array.getElem?_eq_some_iff.1 h2).1, ⟨cur, h2⟩, fun j x hx => by
      simp only [World.cell?, h2]
      simpa using h6 j x hx⟩
theorem Zat.wr {B : Nat} {F : Nat → Prop} {w w' : World} {v : Value} {n : Nat} (h : Zat B w v n) (hw : Wr F w w') (hf : ∀ g, v.ownBlock = some g → ¬ F g) : Zat B w' v n := by
  refine h.imp id ?_
  rintro ⟨g, cap, cur, rfl, h1, h2, r⟩
  exact ⟨g, cap, cur, rfl, h1, (hw.block g (Array.getElem?_eq_some_iff.1 h2).1 (hf g rfl)).trans h2, r⟩
theorem Wr.grown' {F : Nat → Prop} {a w w' : World} {row : Option Nat} (h : Wr F a w) (hg : w.grownBy w' row) (hr : ∀ k, row = some k → F k ∨ a.heap.size ≤ k) : Wr F a w' := h.grown hg hr
theorem rows_head {w : World} {F : Nat → Prop} {v : Value} {l : List (List UInt8)} (h : RowsR w F v [l]) : ∃ g c x, v = .slice (some ⟨g, 0, none⟩) 1 c ∧ w.cell? ⟨g, 0, none⟩ = some x ∧ SRow w x (textsB l) := by
  obtain ⟨xs, h1, h2, h3⟩ := h
  obtain ⟨u, rfl⟩ : ∃ u, xs = [u] := List.length_eq_one_iff.1 h1
  obtain ⟨g, cp, e, -, hg, -, hc⟩ := h2.full (by simp)
  exact ⟨g, cp, u, e, hc 0 u rfl, (h3 0 u l rfl rfl).srow⟩
def nnS1 : SessM := { SessM.new 4 with keys := [[97], [98]] }
def nnS2 : SessM := { nnS1 with multi := true }
def nnS3 : SessM := { nnS2 with queue := [[[71, 69, 84], [97]]] }
theorem nn1 : (SessM.new 4).watch [⟨#[97]⟩, ⟨#[98]⟩] = nnS1 := by rfl
theorem nn1r : (SessM.new 4).watchR [⟨#[97]⟩, ⟨#[98]⟩] = replyV 1 ⟨#[79, 75]⟩ := by rfl
theorem nn_keys : sortK nnS3.keys = [[97], [98]] := List.mergeSort_of_pairwise (by simp [leB]; decide)
theorem nn_queue : ∀ r ∈ nnS3.queue, r.length ≤ 8796093022208 := by intro r hr; simp [nnS3] at hr; subst hr; decide
set_option maxHeartbeats 3200000 in
set_option maxRecDepth 100000 in
theorem sessionNone_walk (k : Int) (oa : Option Addr) (on oc : Nat) (w : World) : Calls Try.prog 7 #[.agg #[.int .i64 k, .slice oa on oc]] w fun e w' => e = .returned (.bool true) ∧ Below w.heap.size w w' := by
  have ha : Below w.heap.size w (w.alloc (.cells #[.int .i64 k, .slice oa on oc] 45)) := (Below.refl _ _).alloc (Nat.le_refl _) _
  have h0 := heap_alloc_new w (.cells #[.int .i64 k, .slice oa on oc] 45)
  obtain ⟨w0, hw0⟩ : ∃ w0, w.alloc (.cells #[.int .i64 k, .slice oa on oc] 45) = w0 := ⟨_, rfl⟩
  rw [hw0] at ha h0
  have hz0 : w0.heap.size = w.heap.size + 1 := by rw [← hw0]; simp
  have A0 := Lib.hid ha
  have D0 := Lib.hid (show w0.cell? ⟨w.heap.size, 1, none⟩ = some (.slice oa on oc) by simp [World.cell?, h0])
  have hft := field_text
  clear ha h0
  go_enter Try.func7, Try.ntmps7
  go_wp2_with fail
  ((with_reducible refine (exec_nil _).mono ?_); rintro e w1 ⟨rfl, rfl⟩)
  go_wp2_with fail
  ((with_reducible refine (refuse_nil _).mono ?_); rintro e w1 ⟨rfl, rfl⟩)
  have d0 := D0.out
  go_wp2_with fail
  ((with_reducible refine (touch_nil _ _).mono ?_); rintro e w1 ⟨rfl, rfl⟩)
  go_wp2_with fail
  ((with_reducible refine (reset_nil _).mono ?_); rintro e w1 ⟨rfl, rfl⟩)
  go_wp2_with fail
  ((with_reducible refine (begin_nil _).mono ?_); rintro e w1 ⟨rfl, b1⟩)
  have B1 := Lib.hid b1
  have d1 : w1.cell? ⟨w.heap.size, 1, none⟩ = some (.slice oa on oc) := (b1.cell (by simp; omega)).trans D0.out
  clear b1 d0
  go_wp2_with fail
  ((with_reducible refine (queue_nil _ _).mono ?_); rintro e w2 ⟨rfl, b2⟩)
  have B2 := Lib.hid (B1.out.trans (b2.mono B1.out.size))
  clear b2 d1
  go_wp2_with fail
  ((with_reducible refine (discard_nil _).mono ?_); rintro e w3 ⟨rfl, b3⟩)
  have B3 := Lib.hid (B2.out.trans (b3.mono B2.out.size))
  have d3 : w3.cell? ⟨w.heap.size, 1, none⟩ = some (.slice oa on oc) := (B3.out.cell (by simp; omega)).trans D0.out
  clear b3
  go_wp2_with fail
  ((with_reducible refine (watch_nil _ _).mono ?_); rintro e w4 ⟨rfl, b4⟩)
  have B4 := Lib.hid (B3.out.trans (b4.mono B3.out.size))
  clear b4 d3
  go_wp2_with fail
  ((with_reducible refine (unwatch_nil _).mono ?_); rintro e w5 ⟨rfl, b5⟩)
  have B5 := Lib.hid (B4.out.trans (b5.mono B4.out.size))
  clear b5
  go_wp2_with fail
  ((with_reducible refine (multi_nil _).mono ?_); rintro e w6 ⟨rfl, rfl⟩)
  go_wp2_with fail
  ((with_reducible refine (dirty_nil _).mono ?_); rintro e w6 ⟨rfl, rfl⟩)
  go_wp2_with fail
  ((with_reducible refine (refused_nil _).mono ?_); rintro e w6 ⟨rfl, rfl⟩)
  go_wp2_with fail
  ((with_reducible refine (queued_nil _).mono ?_); rintro e w6 ⟨rfl, rfl⟩)
  go_wp2_with fail
  ((with_reducible refine (watched_nil _).mono ?_); rintro e w6 ⟨rfl, rfl⟩)
  go_wp2_with fail
  ((refine (new_any 4 (by omega) (by omega) _).mono ?_); rintro e w7 ⟨b, F1, rfl, s1, l1, b7⟩)
  have M7 := Lib.hid (Held.start (W := w0) B5.out s1 l1 b7)
  have HB := Lib.hid B5.out.size
  clear s1 l1 b7
  go_wp2_with fail
  ((with_reducible refine (awake_any _).mono ?_); rintro e w8 ⟨rfl, b8⟩)
  have M8 := Lib.hid (M7.out.below b8)
  clear b8
  go_wp2_with fail
  ((refine (watch_go (M8.out.alloc _).mine.at_ _ [⟨#[97]⟩, ⟨#[98]⟩] (srow_laid (heap_alloc_new _ _) rfl) (small_two (by decide) (by decide)) (by simp) rfl).mono ?_); rintro e w9 ⟨rfl, F2, s9, g9, r9⟩)
  rw [nn1r]
  rw [nn1] at s9
  have M9 := Lib.hid ((M8.out.alloc _).next s9 g9 r9)
  clear s9 g9 r9 M8 M7
  go_wp2_with fail
  ((with_reducible refine (begin_yes M9.out.mine.at_ rfl).mono ?_); rintro e w10 ⟨rfl, s10, r10⟩)
  have M10 := Lib.hid (M9.out.next (S' := nnS2) s10 (Grew.refl _ _) r10)
  clear s10 r10 M9
  go_wp2_with fail
  ((refine (queue_go (M10.out.alloc _).mine.at_ _ [⟨#[71, 69, 84]⟩, ⟨#[97]⟩] (srow_laid (heap_alloc_new _ _) rfl) (by simp) rfl (by decide)).mono ?_); rintro e w11 ⟨rfl, F3, s11, g11, r11⟩)
  have M11 := Lib.hid ((M10.out.alloc _).next (S' := nnS3) s11 g11 r11)
  clear s11 g11 r11 M10
  go_wp2_with fail
  ((refine (queued_any M11.out.mine.at_ nn_queue).mono ?_); rintro e w12 ⟨va, rfl, qa, b12⟩)
  have M12 := Lib.hid (M11.out.below b12)
  have hz12 := b12.size
  have hF3 := Lib.hid M11.out.mine.at_.lt
  have hM11 := Lib.hid M11.out.bel.size
  obtain ⟨ga, ca, gx, cx, rfl, hga, hga2, hgx, hgx2, hgax, ra, zx⟩ := QRow.one (bs := [⟨#[71, 69, 84]⟩, ⟨#[97]⟩]) qa 2 rfl (by decide)
  clear qa b12
  go_wp2_with fail
  ((refine (queued_any M12.out.mine.at_ nn_queue).mono ?_); rintro e w13 ⟨vb, rfl, qb, b13⟩)
  have M13 := Lib.hid (M12.out.below b13)
  have RA13 := Lib.hid (ra.kept (G := fun _ => False) (Wr.of_below b13) (fun _ _ h => h))
  have ZX13 := Lib.hid (zx.later b13)
  have hz13 := b13.size
  obtain ⟨gb, cb, gy, cy, rfl, hgb, hgb2, hgy, hgy2, hgby, rb, zy⟩ := QRow.one (bs := [⟨#[71, 69, 84]⟩, ⟨#[97]⟩]) qb 2 rfl (by decide)
  clear qb b13 ra zx
  go_wp2_with fail
  ((refine (watched_any M13.out.mine.at_).mono ?_); rintro e w14 ⟨vp, rfl, zp, b14⟩)
  have M14 := Lib.hid (M13.out.below b14)
  have RA14 := Lib.hid (RA13.out.kept (G := fun _ => False) (Wr.of_below b14) (fun _ _ h => h))
  have ZX14 := Lib.hid (ZX13.out.later b14)
  have RB14 := Lib.hid (rb.kept (G := fun _ => False) (Wr.of_below b14) (fun _ _ h => h))
  have ZY14 := Lib.hid (zy.later b14)
  rw [nn_keys] at zp
  obtain ⟨gp, cp, rfl, hgp, hgp2, -, -⟩ := ZRow.some_ (bs := [⟨#[97]⟩, ⟨#[98]⟩]) zp 2 rfl (by decide)
  have hz14 := b14.size
  clear b14 rb zy
  go_wp2_with fail
  ((refine (watched_any M14.out.mine.at_).mono ?_); rintro e w15 ⟨vq, rfl, zq, b15⟩)
  have M15 := Lib.hid (M14.out.below b15)
  have RA15 := Lib.hid (RA14.out.kept (G := fun _ => False) (Wr.of_below b15) (fun _ _ h => h))
  have ZX15 := Lib.hid (ZX14.out.later b15)
  have RB15 := Lib.hid (RB14.out.kept (G := fun _ => False) (Wr.of_below b15) (fun _ _ h => h))
  have ZY15 := Lib.hid (ZY14.out.later b15)
  have ZP15 := Lib.hid (show ZRow w13.heap.size w15 _ [⟨#[97]⟩, ⟨#[98]⟩] from zp.later b15)
  rw [nn_keys] at zq
  obtain ⟨gq, cq, rfl, hgq, hgq2, -, hcq⟩ := ZRow.some_ (bs := [⟨#[97]⟩, ⟨#[98]⟩]) zq 2 rfl (by decide)
  have hz15 := b15.size
  have d15 : w15.cell? ⟨w.heap.size, 1, none⟩ = some (.slice oa on oc) := (M15.out.bel.cell (by simp; omega)).trans D0.out
  have hcq0 := Lib.hid (hcq 0 _ rfl)
  clear zp zq b15 hcq RA13 RA14 ZX13 ZX14 RB14 ZY14 M11 M12 M13 M14
  -- what the stores meet
  obtain ⟨ga', ca', e1, -, -, -, cza⟩ := RA15.out.full (by simp)
  obtain ⟨rfl, rfl⟩ : ga = ga' ∧ ca = ca' := by simpa using e1
  have ca0 := cza 0 _ rfl
  obtain ⟨⟨ux, hux⟩, hfx⟩ := ZX15.out.zat.cell (g := gx) (k := 1) rfl (by decide)
  obtain ⟨⟨up, hup⟩, hfp⟩ := ZP15.out.zat.cell (g := gp) (k := 0) rfl (by decide)
  clear cza e1
  have hne1 : gx ≠ gp := by omega
  have hne2 : ga ≠ gp := by omega
  obtain ⟨w16, hw16⟩ : ∃ w16, (w15.setCell ⟨gx, 1, none⟩ (.string ⟨#[115, 112, 111, 105, 108, 116]⟩)).setCell ⟨gp, 0, none⟩ (.string ⟨#[115, 112, 111, 105, 108, 116]⟩) = w16 := ⟨_, rfl⟩
  have hWr : Wr (fun k => k = gx ∨ k = gp) w15 w16 := by rw [← hw16]; exact ((Wr.refl _ w15).setCell (.inl rfl) _).setCell (.inr rfl) _
  have W16 := Lib.hid hWr
  have RA16 := Lib.hid (RA15.out.kept hWr (fun k e h => by subst e; rcases h with h | h <;> omega))
  have ZX16 := Lib.hid (show Zat w11.heap.size w16 (.slice (some ⟨gx, 0, none⟩) 2 cx) 2 by
    rw [← hw16]
    exact (ZX15.out.zat.store (g := gx) (k := 1) rfl _).wr (F := fun k => k = gp) (Wr.setCell (F := fun k => k = gp) (p := ⟨gp, 0, none⟩) (Wr.refl _ _) rfl _) (fun g hg e => by simp [Value.ownBlock] at hg; omega))
  have ZP16 := Lib.hid (show Zat w13.heap.size w16 (.slice (some ⟨gp, 0, none⟩) 2 cp) 2 by
    rw [← hw16]
    exact (ZP15.out.zat.wr (F := fun k => k = gx) (Wr.setCell (F := fun k => k = gx) (p := ⟨gx, 1, none⟩) (Wr.refl _ _) rfl _) (fun g hg e => by simp [Value.ownBlock] at hg; omega)).store (g := gp) (k := 0) rfl _)
  have d16 : w16.cell? ⟨w.heap.size, 1, none⟩ = some (.slice oa on oc) := by
    have hlow := M15.out.bel.size
    have h11 : w0.heap.size ≤ w11.heap.size := hM11.out
    rw [← d15]
    exact World.cell?_of_block (hWr.block _ (by simp; omega) (by simp; omega))
  have hz16 : w16.heap.size = w15.heap.size := by rw [← hw16]; simp [World.setCell]
  clear hWr
  go_wp2_with (at_builtin; refine wpList_append_u w16 rfl (.tmp 145) (.tmp 148) rfl (.slice (some ⟨ga, 0, none⟩) 1 ca) 1 [.slice (some ⟨gx, 0, none⟩) 2 cx] rfl RA16.out.1 (.slice oa on oc) rfl (by simp [Act.eval]) (by omega) ?_)
  intro va2 w17 own17 grow17
  have hz17 := grow17.size
  have W17 := Lib.hid (show Wr (fun k => k = ga ∨ k = gx ∨ k = gp) w15 w17 from (W16.out.mono (fun k h _ => .inr h)).grown grow17 (fun k e => by simp [Value.ownBlock] at e; exact .inl (.inl e.symm)))
  have W67 := Lib.hid (show Wr (fun k => k = ga) w16 w17 from (Wr.refl _ _).grown grow17 (fun k e => by simp [Value.ownBlock] at e; exact .inl e.symm))
  have ZX17 := Lib.hid (ZX16.out.wr W67.out (fun g hg e => by simp [Value.ownBlock] at hg; omega))
  have zp17 := ZP16.out.wr W67.out (fun g hg e => by simp [Value.ownBlock] at hg; omega)
  have hgp17 : ∃ cur, w17.heap[gp]? = some (.cells cur 9 (0, 0)) := by
    rcases zp17 with ⟨e, _⟩ | ⟨g, cap, cur, e, _, h2, _⟩
    · cases e
    · cases e; exact ⟨cur, h2⟩
  have RA17 := Lib.hid (show Row w17 (fun k => k ≠ gp) 23 va2 [.slice (some ⟨gx, 0, none⟩) 2 cx, .slice oa on oc] from ⟨own17, fun g hg e => by
    subst e
    obtain ⟨c1, h1⟩ := row_block own17 hg
    obtain ⟨c2, h2⟩ := hgp17
    rw [h1] at h2; simp at h2⟩)
  have ZP17 := Lib.hid zp17
  clear own17 grow17 zp17 hgp17 d16 hft
  go_wp2_with (at_builtin; refine wpList_append_z w17 rfl (.tmp 150) (.tmp 151) rfl (.slice (some ⟨gp, 0, none⟩) 2 cp) 2 rfl ZP17.out (by omega) (.string ⟨#[98, 101, 104, 105, 110, 100]⟩) rfl (by simp [Act.eval]) (by omega) ?_)
  intro vp2 w18 zp18 cl18 ow18
  have W18 := Lib.hid (cl18 w15 _ W17.out (fun g hg => by simp [Value.ownBlock] at hg; exact .inl (.inr (.inr hg.symm))))
  have W78 := Lib.hid (cl18 w17 (fun k => k = gp) (Wr.refl _ _) (fun g hg => by simp [Value.ownBlock] at hg; exact .inl hg.symm))
  have ZX18 := Lib.hid (ZX17.out.wr W78.out (fun g hg e => by simp [Value.ownBlock] at hg; omega))
  have ra18 := RA17.out.kept W78.out (fun k h1 h2 => h1 h2)
  obtain ⟨g2, c2, rfl, -, -, -, cz2⟩ := ra18.full (by simp)
  have ca2 := cz2 0 _ rfl
  have hz18 := W78.out.size
  clear zp18 cl18 ow18 ra18 cz2
  go_wp2_with (at_builtin; refine wpList_append_z w18 rfl (.tmp 155) (.tmp 156) rfl (.slice (some ⟨gx, 0, none⟩) 2 cx) 2 rfl ZX18.out (by omega) (.string ⟨#[98, 101, 104, 105, 110, 100]⟩) rfl (by simp [Act.eval]) (by omega) ?_)
  intro vx w19 zx19 cl19 ow19
  have W19 := Lib.hid (cl19 w15 _ W18.out (fun g hg => by simp [Value.ownBlock] at hg; exact .inl (.inr (.inl hg.symm))))
  have OW19 := Lib.hid ow19
  have ZX19 := Lib.hid zx19
  have hz19 := (cl19 w18 (fun k => k = gx) (Wr.refl _ _) (fun g hg => by simp [Value.ownBlock] at hg; exact .inl hg.symm)).size
  clear zx19 cl19 ow19 ca2
  go_wp2_with (at_builtin; refine wpList_append_z w19 rfl (.tmp 158) (.tmp 159) rfl vx 3 rfl ZX19.out (by omega) (.string ⟨#[109, 111, 114, 101]⟩) rfl (by simp [Act.eval]) (by omega) ?_)
  intro vy w20 zy20 cl20 ow20
  have hG : ∀ k, (k = ga ∨ k = gx ∨ k = gp) → w11.heap.size ≤ k := fun k h => by rcases h with h | h | h <;> omega
  have w20w := cl20 w15 _ W19.out (fun g hg => (OW19.out g hg).elim (fun h => by simp [Value.ownBlock] at h; exact .inl (.inr (.inl h.symm))) (fun h => .inr (by omega)))
  have W20 := Lib.hid w20w
  have M20 := Lib.hid (show Held w0 w20 b F3 nnS3 from ⟨⟨M15.out.mine.at_.kept w20w (fun k h1 h2 => by have := hF3.out k h1; have := hG k h2; omega), M15.out.mine.from_⟩, M15.out.bel.trans (w20w.below (fun k h => by have := hG k h; have := hM11.out; omega) M15.out.bel.size)⟩)
  have RB20 := Lib.hid (RB15.out.kept w20w (fun k h1 h2 => by subst h1; rcases h2 with h2 | h2 | h2 <;> omega))
  have hy20 : w20.cell? ⟨gy, 1, none⟩ = some (.string ⟨#[97]⟩) := by
    obtain ⟨g5, c5, e5, -, -, -, h5⟩ := ZY15.out.some_ 2 rfl (by decide)
    obtain ⟨rfl, rfl⟩ : gy = g5 ∧ cy = c5 := by simpa using e5
    rw [← h5 1 _ rfl]
    exact World.cell?_of_block (w20w.block _ (by simp; omega) (by simp; omega))
  have hq20 : w20.cell? ⟨gq, 0, none⟩ = some (.string ⟨#[97]⟩) := by
    rw [← hcq0.out]
    exact World.cell?_of_block (w20w.block _ (by simp; omega) (by simp; omega))
  obtain ⟨gb', cb', e1, -, -, -, czb⟩ := RB20.out.full (by simp)
  obtain ⟨rfl, rfl⟩ : gb = gb' ∧ cb = cb' := by simpa using e1
  have cb0 := czb 0 _ rfl
  clear w20w zy20 cl20 ow20 czb e1
  go_wp2_with fail
  ((refine (queued_any M20.out.mine.at_ nn_queue).mono ?_); rintro e w21 ⟨vc, rfl, qc, b21⟩)
  have M21 := Lib.hid (M20.out.below b21)
  obtain ⟨gc, cc, gz, cz, rfl, -, -, -, -, -, rc, zz⟩ := QRow.one (bs := [⟨#[71, 69, 84]⟩, ⟨#[97]⟩]) qc 2 rfl (by decide)
  obtain ⟨gc', cc', e1, -, -, -, czc⟩ := rc.full (by simp)
  obtain ⟨rfl, rfl⟩ : gc = gc' ∧ cc = cc' := by simpa using e1
  have cc0 := czc 0 _ rfl
  obtain ⟨g5, c5, e5, -, -, -, h5⟩ := zz.some_ 2 rfl (by decide)
  obtain ⟨rfl, rfl⟩ : gz = g5 ∧ cz = c5 := by simpa using e5
  have cz1 := h5 1 _ rfl
  clear qc b21 rc zz czc e1 e5 h5
  go_wp2_with fail
  ((refine (watched_any M21.out.mine.at_).mono ?_); rintro e w22 ⟨vd, rfl, zd, b22⟩)
  have M22 := Lib.hid (M21.out.below b22)
  rw [nn_keys] at zd
  obtain ⟨gd, cd, rfl, -, -, -, hd⟩ := ZRow.some_ (bs := [⟨#[97]⟩, ⟨#[98]⟩]) zd 2 rfl (by decide)
  have hd0 := hd 0 _ rfl
  clear zd b22 hd
  go_wp2_with fail
  ((with_reducible refine (exec_go M22.out.mine.at_ rfl).mono ?_); rintro e w23 ⟨v23, F23, rfl, q23, s23, g23, r23⟩)
  have M23 := Lib.hid (M22.out.next s23 g23 r23)
  obtain ⟨ge, ce, xe, rfl, hce, hse⟩ := rows_head (l := [[71, 69, 84], [97]]) q23
  have hN : nnS3.execN = 1 := rfl
  have HSE := Lib.hid hse
  clear s23 g23 r23 q23 hd0
  go_wp2_with fail
  ((refine (same_any [[71, 69, 84], [97]] [[71, 69, 84], [97]] _ _ (by simp) _ (HSE.out.kept ((Below.refl _ _).alloc (Nat.le_refl _) _)) (srow_laid (heap_alloc_new _ _) rfl)).mono ?_); rintro e w24 ⟨rfl, n24, rfl⟩)
  go_wp2
  go_ret
  exact ⟨rfl, A0.out.trans (((M23.out.alloc _).bel.trans (below_drewN (Below.refl _ _) _)).mono (by omega))⟩
end Go.Proofs.Ytflhcffpfiameaa
