/- WATCH: the document's; the program's, whatever was said. -/
import Derived.Test.YtflhcffpfiameaaSess13
namespace Go.Proofs.Ytflhcffpfiameaa
open Go.ChangeShapes Go.WideShapes Go.ChangeAt Go.RowKit Go.Maps
set_option linter.unusedVariables false

theorem rising_of {l : List Tx} (h1 : l.Pairwise (fun a b => ¬ b < a)) (h2 : l.Nodup) : Pl.Rising l := by
  refine (List.Pairwise.and h1 h2).imp fun {a b} h => ?_
  rcases Pl.tri a b with h3 | h3 | h3
  · exact h3
  · exact absurd h3 h.2
  · exact absurd h3 h.1
theorem rising_sortK {ks : List Tx} (h : ks.Nodup) : Pl.Rising (sortK ks) := rising_of (Pl.sorted_merge ks) ((List.mergeSort_perm ks leB).nodup_iff.2 h)
theorem union_sortK {ks : List Tx} (h : ks.Nodup) (bs : List ByteArray) : Pl.unions [sortK ks, texts bs] = sortK (addKs ks bs) := by
  unfold Pl.unions
  refine Pl.rising_ext (Pl.rising_ofS _) (rising_sortK (addKs_nodup h bs)) fun x => ?_
  rw [Pl.mem_ofS, mem_sortK, mem_addKs]
  simp only [List.flatten_cons, List.flatten_nil, List.append_nil, List.mem_append, mem_sortK, texts, List.mem_map]
  constructor
  · rintro (h | ⟨b, hb, rfl⟩)
    · exact .inl h
    · exact .inr ⟨b, hb, rfl⟩
  · rintro (h | ⟨b, hb, rfl⟩)
    · exact .inl h
    · exact .inr ⟨b, hb, rfl⟩
theorem watch_any {w : World} {b : Nat} {F : Nat → Prop} {S : SessM} (h : Sess w b F S) (v : Value) (bs : List ByteArray) (hs : SRow w v bs) (hbs : ∀ x ∈ bs, x.size ≤ maxLen) (hlen : bs.length ≤ 8796093022208) :
    Calls Try.prog 11 #[.pointer (some ⟨b, 0, none⟩), v] w fun e w' => WatchEnd S bs b F w e w' := by
  rcases hm : S.multi with _ | _
  · exact watch_go h v bs hs hbs hlen hm
  · refine (watch_multi h v hm).mono fun e w' ⟨h1, h2⟩ => ⟨?_, F, ?_, Grew.refl _ _, Wr.of_below h2⟩
    · rw [h1]; unfold SessM.watchR; rw [if_pos hm]
    · unfold SessM.watch; rw [if_pos (.inl hm)]; exact h.below h2
theorem RSessAt.watched {w : World} {b : Nat} {F : Nat → Prop} {S : SessM} {qv wv v : Value} {C : Nat} {ks : List Tx} (h : RSessAt w b F S qv wv) (hm : Row w (fun k => C ≤ k) 9 v ((sortK ks).map strV)) :
    RSessAt (w.setCell ⟨b, 4, none⟩ v) b (fun k => F k ∨ (C ≤ k ∧ k < w.heap.size)) { S with keys := ks } qv v where
  lt := fun k hk => by
    rw [heap_setCell_size]
    rcases hk with hk | hk
    · exact h.lt k hk
    · exact hk.2
  own := .inl h.own
  block := heap_setCell_same h.block
  rows := (h.rows.mono fun k hk => Or.inl hk).kept_by fun k cur e he hk => Below.heap_setCell _ _ _ _ (h.notb he hk)
  told := (show Row w (fun k => F k ∨ (C ≤ k ∧ k < w.heap.size)) 9 v ((sortK ks).map strV) from ⟨hm.1, fun g hg => .inr ⟨hm.2 g hg, (hm.1.lt g hg).2⟩⟩).kept_by fun k cur hk => Below.heap_setCell _ _ _ _ (h.notb (.inr rfl) hk)
def RWatchEnd (S : SessM) (bs : List ByteArray) (b : Nat) (F : Nat → Prop) (w : World) (e : Ending) (w' : World) : Prop :=
  e = .returned (S.watchR bs) ∧ ∃ F', RSess w' b F' (S.watch bs) ∧ Grew w F F' ∧ Wr F w w'
set_option maxRecDepth 100000 in
set_option maxHeartbeats 3200000 in
theorem rwatch_any {w : World} {b : Nat} {F : Nat → Prop} {S : SessM} (h : RSess w b F S) (hfew : S.keys.length ≤ 1024) (hnd : S.keys.Nodup) (v : Value) (bs : List ByteArray) (hs : SRow w v bs) (hlen : bs.length ≤ 1048576) :
    Calls Try.prog 40 #[.pointer (some ⟨b, 0, none⟩), v] w (RWatchEnd S bs b F w) := by
  obtain ⟨qv, wv, h⟩ := h
  have ha := h.alloc (.cells #[.int .i64 0, .string ⟨#[]⟩, .int .i64 0, .slice none 0 0] 31)
  obtain ⟨c0, c1, c2, c3, c4, c5⟩ := ha.cells
  have hlt := h.lt b h.own
  have hn : ¬ F w.heap.size := fun hk => Nat.lt_irrefl _ (h.lt _ hk)
  have H := Lib.hid h
  unfold RWatchEnd
  rcases hm : S.multi with _ | _
  · obtain ⟨wa, wc, hwv⟩ := h.told.shape
    rw [List.length_map] at hwv
    obtain ⟨va, vc, rfl⟩ : ∃ ao cp, v = .slice ao bs.length cp := by obtain ⟨a, c, e, _⟩ := hs; exact ⟨a, c, e⟩
    rw [hm] at c1
    have hTR := h.trow
    subst hwv
    have hsa := hs.kept (boxed_below w)
    have hta := TRow.kept hTR (boxed_below w)
    have HU := Lib.hid (fun (o : Obj) (ho : o = .cells #[.slice wa (sortK S.keys).length wc, .slice va bs.length vc] 23) => refUnion_any [sortK S.keys, texts bs] (.slice (some ⟨w.heap.size + 1, 0, none⟩) 2 2) (by simp [sortK_length, texts_length]; omega) (by simp) ((boxed w).alloc o) (by
      subst ho
      have hx : ((boxed w).alloc (.cells #[.slice wa (sortK S.keys).length wc, .slice va bs.length vc] 23)).heap[w.heap.size + 1]? = some (.cells [Value.slice wa (sortK S.keys).length wc, .slice va bs.length vc].toArray 23 (0, 0)) := by
        have := heap_alloc_new (boxed w) (.cells #[.slice wa (sortK S.keys).length wc, .slice va bs.length vc] 23)
        rw [boxed_size] at this; exact this
      refine TLRow.laid hx rfl rfl fun j x r h1 h2 => ?_
      have hbl : Below (boxed w).heap.size (boxed w) ((boxed w).alloc (.cells #[.slice wa (sortK S.keys).length wc, .slice va bs.length vc] 23)) := (Below.refl _ _).alloc (Nat.le_refl _) _
      rcases j with _ | _ | j
      · simp at h1 h2; subst h1; subst h2; exact TRow.kept hta hbl
      · simp at h1 h2; subst h1; subst h2; exact TRow.of (hsa.kept hbl)
      · simp at h1))
    rw [union_sortK hnd bs] at HU
    clear hTR hsa hta ha h c0 c2 c3 c5
    go_enter Try.func40, Try.ntmps40
    go_wp2_with fail
    (refine (HU.out _ rfl).mono ?_; rintro e w1 ⟨v1, rfl, m1, b1⟩)
    have hb1 : Below (boxed w).heap.size (boxed w) w1 := ((Below.refl _ _).alloc (Nat.le_refl _) _).trans (b1.mono (by simp))
    have hz1 := hb1.size
    rw [boxed_size] at hz1
    have R1 := Lib.hid ((H.out.alloc (.cells #[.int .i64 0, .string ⟨#[]⟩, .int .i64 0, .slice none 0 0] 31)).below hb1)
    have HB1 := Lib.hid hb1
    have HX1 := Lib.hid (boxed_at hb1)
    have hM : Row w1 (fun k => w.heap.size + 1 ≤ k) 9 v1 ((sortK (addKs S.keys bs)).map strV) := Row.mono m1 fun k hk => by simp [boxed_size] at hk; omega
    have HM := Lib.hid hM
    obtain ⟨ma, mc, hv1⟩ := hM.shape
    rw [List.length_map, sortK_length] at hv1
    subst hv1
    obtain ⟨e0, e1, e2, e3, e4, e5⟩ := R1.out.cells
    have f4 := R1.out.free 4
    have hblt : b < w1.heap.size := by omega
    have hbw : b ≠ w.heap.size := by omega
    clear m1 b1 hb1 hM c1 c4 e0 e1 e2 e3 e5
    by_cases hmany : 1024 < (addKs S.keys bs).length
    · have hmI : (1024 : Int) < ((addKs S.keys bs).length : Int) := by omega
      have HWR := Lib.hid (show S.watchR bs = replyV 2 ⟨#[69, 82, 82, 32, 116, 111, 111, 32, 109, 97, 110, 121, 32, 119, 97, 116, 99, 104, 101, 100, 32, 107, 101, 121, 115]⟩ by unfold SessM.watchR; rw [if_neg (by simp [hm]), if_pos hmany])
      have HWS := Lib.hid (show S.watch bs = S by unfold SessM.watch; rw [if_pos (.inr hmany)])
      go_wp2_with fail
      ((with_reducible refine (rfail_any _ _).mono ?_); rintro e w2 ⟨rfl, b2⟩)
      have HBX := Lib.hid ((b2.block _ (by omega)).trans HX1.out)
      obtain ⟨k0, k1, k2, k3, z0⟩ := box_cells HBX.out
      go_wp2
      refine bodyPost_ret (reply_end rfl _ w.heap.size rfl Try.underlying31 (by kernel_rfl) HBX.out rfl _ _ _ _) rfl ⟨by rw [HWR.out], ?_⟩
      rw [HWS.out]
      exact ⟨F, RSessAt.sess ((R1.out.below b2).reply hn _ _ _ _), Grew.refl _ _, ((Wr.of_below ((boxed_below w).trans (HB1.out.mono (by rw [boxed_size]; omega)))).trans (Wr.of_below b2) (Grew.refl _ F)).reply (Nat.le_refl _) _ _ _ _⟩
    · have hmI : ¬ (1024 : Int) < ((addKs S.keys bs).length : Int) := by omega
      have HWR := Lib.hid (show S.watchR bs = replyV 1 ⟨#[79, 75]⟩ by unfold SessM.watchR; rw [if_neg (by simp [hm]), if_neg hmany])
      have HWS := Lib.hid (show S.watch bs = { S with keys := addKs S.keys bs } by unfold SessM.watch; rw [if_neg (by rintro (h | h); (rw [hm] at h; cases h); exact hmany h)])
      go_wp2_with fail
      ((with_reducible refine (rok_any _ _).mono ?_); rintro e w2 ⟨rfl, b2⟩)
      have hbx : w2.heap[w.heap.size]? = some (.cells #[.int .i64 0, .string ⟨#[]⟩, .int .i64 0, .slice none 0 0] 31 (0, 0)) := by
        rw [b2.block _ (by rw [heap_setCell_size]; omega), Below.heap_setCell _ _ _ _ hbw.symm]
        exact HX1.out
      have HBX := Lib.hid hbx
      obtain ⟨k0, k1, k2, k3, z0⟩ := box_cells hbx
      clear hbx
      go_wp2
      refine bodyPost_ret (reply_end rfl _ w.heap.size rfl Try.underlying31 (by kernel_rfl) HBX.out rfl _ _ _ _) rfl ⟨by rw [HWR.out], ?_⟩
      rw [HWS.out]
      refine ⟨_, RSessAt.sess (((R1.out.watched HM.out).below b2).reply ?_ _ _ _ _), ?_, (((Wr.of_below ((boxed_below w).trans (HB1.out.mono (by rw [boxed_size]; omega)))).setCell (p := ⟨b, 4, none⟩) H.out.own _).trans (Wr.of_below b2) (Grew.refl _ F)).reply (Nat.le_refl _) _ _ _ _⟩
      · rintro (h1 | h1)
        · exact hn h1
        · have := h1.1; omega
      · exact fun k hk => hk.imp id (fun h => by have := h.1; omega)
  · rw [show S.watchR bs = replyV 2 ⟨#[69, 82, 82, 32, 87, 65, 84, 67, 72, 32, 119, 105, 116, 104, 105, 110, 32, 77, 85, 76, 84, 73]⟩ by unfold SessM.watchR; rw [if_pos hm], show S.watch bs = S by unfold SessM.watch; rw [if_pos (.inl hm)]]
    rw [hm] at c1
    clear ha h c0 c2 c3 c4 c5
    go_enter Try.func40, Try.ntmps40
    go_wp2_with fail
    ((with_reducible refine (rfail_any _ _).mono ?_); rintro e w1 ⟨rfl, b1⟩)
    have HBX := Lib.hid (boxed_at b1)
    obtain ⟨k0, k1, k2, k3, z0⟩ := box_cells HBX.out
    go_wp2
    refine bodyPost_ret (reply_end rfl _ w.heap.size rfl Try.underlying31 (by kernel_rfl) HBX.out rfl _ _ _ _) rfl ⟨rfl, ?_⟩
    exact ⟨F, RSessAt.sess (((H.out.alloc _).below b1).reply hn _ _ _ _), Grew.refl _ _, (((Wr.refl F w).alloc _).trans (Wr.of_below b1) (Grew.refl _ _)).reply (Nat.le_refl _) _ _ _ _⟩
end Go.Proofs.Ytflhcffpfiameaa
