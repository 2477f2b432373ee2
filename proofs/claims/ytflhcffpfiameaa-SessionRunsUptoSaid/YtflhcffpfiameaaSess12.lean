/- UNWATCH, touched keys, WATCH: the program's and the document's. -/
import Derived.Test.YtflhcffpfiameaaSess11
namespace Go.Proofs.Ytflhcffpfiameaa
open Go.ChangeShapes Go.WideShapes Go.ChangeAt Go.RowKit Go.Maps
set_option linter.unusedVariables false

/-! ### UNWATCH -/
def SessM.unw (S : SessM) : SessM := { S with dirty := false, keys := [] }
set_option maxHeartbeats 400000 in
theorem clean_any {w : World} {b : Nat} {F : Nat → Prop} {S : SessM} (h : Sess w b F S) :
    Calls Try.prog 47 #[.pointer (some ⟨b, 0, none⟩)] w fun e w' => e = .returned (.bool (!S.multi && !S.dirty && !S.refused)) ∧ w = w' := by
  obtain ⟨qv, bm, D, h⟩ := h
  obtain ⟨c0, c1, c2, c3, c4, c5⟩ := h.cells
  have heq : ∀ (x y z : Bool) (W : World), (binOp BinOp.eql 57 (.agg #[.bool x, .bool y, .bool z]) (.agg #[.bool false, .bool false, .bool false])).run Try.prog W = .ok (.bool (!x && !y && !z)) W := fun x y z W => by
    cases x <;> cases y <;> cases z <;> kernel_rfl
  clear h
  go_enter Try.func47, Try.ntmps47
  go_wp2
  go_ret
  exact ⟨rfl, rfl⟩
set_option maxRecDepth 100000 in
set_option maxHeartbeats 1600000 in
theorem runwatch_any {w : World} {b : Nat} {F : Nat → Prop} {S : SessM} (h : RSess w b F S) :
    Calls Try.prog 41 #[.pointer (some ⟨b, 0, none⟩)] w fun e w' => e = .returned (replyV 1 ⟨#[79, 75]⟩) ∧ RSess w' b F S.unw ∧ Wr F w w' := by
  obtain ⟨qv, wv, h⟩ := h
  have ha := h.alloc (.cells #[.int .i64 0, .string ⟨#[]⟩, .int .i64 0, .slice none 0 0] 31)
  obtain ⟨wa, wc, rfl⟩ := h.told.shape
  obtain ⟨c0, c1, c2, c3, c4, c5⟩ := ha.cells
  have f4 := ha.free 4
  have f5 := ha.free 5
  obtain ⟨e0, e1, e2, e3, e4, e5⟩ := h.cells
  have g4 := h.free 4
  have g5 := h.free 5
  have hlt := h.lt b h.own
  have hn : ¬ F w.heap.size := fun hk => Nat.lt_irrefl _ (h.lt _ hk)
  have H := Lib.hid h
  clear ha h
  go_enter Try.func41, Try.ntmps41
  go_wp2_with fail
  ((with_reducible refine (rok_any _ _).mono ?_); rintro e w1 ⟨rfl, b1⟩)
  have HBX := Lib.hid (show w1.heap[w.heap.size]? = some (.cells #[.int .i64 0, .string ⟨#[]⟩, .int .i64 0, .slice none 0 0] 31 (0, 0)) from box_there (by simp [World.setCell]) b1)
  obtain ⟨k0, k1, k2, k3, z0⟩ := box_cells HBX.out
  have ho := H.out.own
  go_wp2
  refine bodyPost_ret (reply_end rfl _ w.heap.size rfl Try.underlying31 (by kernel_rfl) HBX.out rfl _ _ _ _) rfl ⟨rfl, ?_⟩
  have h1 : RSessAt ((w.setCell ⟨b, 4, none⟩ (.slice none 0 0)).setCell ⟨b, 5, none⟩ (.bool false)) b F S.unw qv (.slice none 0 0) := {
    lt := fun k hk => by simp only [heap_setCell_size]; exact H.out.lt k hk
    own := ho
    block := by rw [heap_setCell_same (heap_setCell_same H.out.block)]; rfl
    rows := H.out.rows.kept_by fun k cur e he hk => by rw [Below.heap_setCell _ _ _ _ (H.out.notb he hk), Below.heap_setCell _ _ _ _ (H.out.notb he hk)]
    told := by show Row _ _ _ _ ((sortK []).map strV); rw [sortK_nil]; exact Row.nil _ _ _ }
  exact ⟨RSessAt.sess (((h1.alloc _).below b1).reply hn _ _ _ _), (((((Wr.refl F w).setCell (p := ⟨b, 4, none⟩) ho _).setCell (p := ⟨b, 5, none⟩) ho _).alloc _).trans (Wr.of_below b1) (Grew.refl _ _)).reply (Nat.le_refl _) _ _ _ _⟩
theorem SessAt.unwatched {w : World} {b : Nat} {F : Nat → Prop} {S : SessM} {qv : Value} {bm : Nat} {D : DataW Unit} (h : SessAt w b F S qv bm D) (o : Obj) :
    SessAt ((((w.setCell ⟨b, 2, none⟩ (.bool false)).setCell ⟨b, 5, none⟩ (.map (some (w.heap.size + 1)))).alloc o).alloc (.map #[] 0)) b (fun k => F k ∨ k = w.heap.size + 1) S.unw qv (w.heap.size + 1) (.map []) := by
  have hlt := h.lt b h.own
  exact {
    lt := fun k hk => by
      rcases hk with hk | rfl
      · have := h.lt k hk; simp [World.setCell]; omega
      · simp [World.setCell]
    own := .inl h.own
    places := h.places
    room := h.room
    few := by simp [SessM.unw]
    lens := fun k hk => by simp [SessM.unw] at hk
    nodup := List.nodup_nil
    block := by
      rw [Below.heap_alloc _ _ _ (by simp [World.setCell]; omega), Below.heap_alloc _ _ _ (by simp [World.setCell]; omega), heap_setCell_same (heap_setCell_same h.block)]
      rfl
    ownM := .inr rfl
    map := by
      have := World.ownsMap_made (((w.setCell ⟨b, 2, none⟩ (.bool false)).setCell ⟨b, 5, none⟩ (.map (some (w.heap.size + 1)))).alloc o) Try.prog 9 (plainElem (H := Unit) Try.prog 3)
      rw [show (((w.setCell ⟨b, 2, none⟩ (.bool false)).setCell ⟨b, 5, none⟩ (.map (some (w.heap.size + 1)))).alloc o).heap.size = w.heap.size + 1 by simp [World.setCell]] at this
      exact this
    keys := KeysAre.none
    rows := (h.rows.mono fun k hk => Or.inl hk).kept_by fun k cur e he hk => by
      have hkl := (Array.getElem?_eq_some_iff.1 hk).1
      have hkb : k ≠ b := by
        rintro rfl
        rw [h.block] at hk
        simp only [Option.some.injEq, Obj.cells.injEq] at hk
        rcases he with he | he <;> (rw [he] at hk; simp at hk)
      rw [Below.heap_alloc _ _ _ (by simp [World.setCell]; omega), Below.heap_alloc _ _ _ (by simp [World.setCell]; omega), Below.heap_setCell _ _ _ _ hkb, Below.heap_setCell _ _ _ _ hkb] }
set_option maxRecDepth 100000 in
set_option maxHeartbeats 1600000 in
theorem unwatch_any {w : World} {b : Nat} {F : Nat → Prop} {S : SessM} (h : Sess w b F S) :
    Calls Try.prog 28 #[.pointer (some ⟨b, 0, none⟩)] w fun e w' => e = .returned (replyV 1 ⟨#[79, 75]⟩) ∧ ∃ F', Sess w' b F' S.unw ∧ Grew w F F' ∧ Wr F w w' := by
  have H2 := Lib.hid (show Sess (w.alloc (.cells #[.int .i64 0, .string ⟨#[]⟩, .int .i64 0, .slice none 0 0] 31)) b F S from h.below (boxed_below w))
  obtain ⟨qv, bm, D, h⟩ := h
  have hb := h.alloc (.cells #[.int .i64 0, .string ⟨#[]⟩, .int .i64 0, .slice none 0 0] 31)
  obtain ⟨c0, c1, c2, c3, c4, c5⟩ := hb.cells
  have f2 := hb.free 2
  have f5 := hb.free 5
  obtain ⟨e0, e1, e2, e3, e4, e5⟩ := h.cells
  have g2 := h.free 2
  have g5 := h.free 5
  have hown := hb.map
  have hsz := hb.keys.size
  have hfew := h.few
  have hlt := h.lt b h.own
  have hn : ¬ F w.heap.size := fun hk => Nat.lt_irrefl _ (h.lt _ hk)
  have hmm := @run_makeMap Try.prog
  have H := Lib.hid h
  clear hb h c0 c1 c3 c4
  by_cases hcl : (!S.multi && !S.dirty && !S.refused) = true
  · have HC := Lib.hid hcl
    have hcl2 := clean_any H2.out
    rw [hcl] at hcl2
    have HCl := Lib.hid hcl2
    clear hcl hcl2
    by_cases hk : S.keys.length = 0
    · have hd : ((Maps.size D : Int) == 0) = true := by rw [hsz, hk]; rfl
      have hlen := hown.len Try.underlying56 3
      have HK := Lib.hid hk
      have hdd : Hid (S.unw = S) := by
        show S.unw = S
        have hd1 := HC.out
        have hk1 : S.keys = [] := List.eq_nil_of_length_eq_zero HK.out
        obtain ⟨pl, mu, di, re, qu, ke⟩ := S
        simp only at hk1
        subst hk1
        simp at hd1
        obtain ⟨⟨-, hd2⟩, -⟩ := hd1
        subst hd2
        rfl
      clear hk hsz hown
      go_enter Try.func28, Try.ntmps28
      go_wp2_with fail
      (refine HCl.out.mono ?_; rintro e w1 ⟨rfl, rfl⟩)
      go_wp2_with fail
      ((with_reducible refine (simple_any _ _).mono ?_); rintro e w1 ⟨rfl, b1⟩)
      have HBX := Lib.hid (boxed_at b1)
      obtain ⟨k0, k1, k2, k3, z0⟩ := box_cells HBX.out
      go_wp2
      refine bodyPost_ret (reply_end rfl _ w.heap.size rfl Try.underlying31 (by kernel_rfl) HBX.out rfl _ _ _ _) rfl ⟨rfl, ?_⟩
      rw [hdd.out]
      exact ⟨F, SessAt.sess (((H.out.alloc _).below b1).reply hn _ _ _ _), Grew.refl _ _, (((Wr.refl F w).alloc _).trans (Wr.of_below b1) (Grew.refl _ _)).reply (Nat.le_refl _) _ _ _ _⟩
    · have hd : ((Maps.size D : Int) == 0) = false := by rw [hsz, beq_eq_false_iff_ne]; omega
      have hlen := hown.len Try.underlying56 3
      clear hk hsz hown
      go_enter Try.func28, Try.ntmps28
      go_wp2_with fail
      (refine HCl.out.mono ?_; rintro e w1 ⟨rfl, rfl⟩)
      go_wp2_with fail
      ((with_reducible refine (simple_any _ _).mono ?_); rintro e w1 ⟨rfl, b1⟩)
      have HBX := Lib.hid (show w1.heap[w.heap.size]? = some (.cells #[.int .i64 0, .string ⟨#[]⟩, .int .i64 0, .slice none 0 0] 31 (0, 0)) from by
        rw [b1.block _ (by simp [World.setCell]; omega), Below.heap_alloc _ _ _ (by simp [World.setCell])]
        have := heap_alloc_new ((w.setCell ⟨b, 2, none⟩ (.bool false)).setCell ⟨b, 5, none⟩ (.map (some (w.heap.size + 1)))) (.cells #[.int .i64 0, .string ⟨#[]⟩, .int .i64 0, .slice none 0 0] 31)
        rw [show ((w.setCell ⟨b, 2, none⟩ (.bool false)).setCell ⟨b, 5, none⟩ (.map (some (w.heap.size + 1)))).heap.size = w.heap.size by simp [World.setCell]] at this
        exact this)
      obtain ⟨k0, k1, k2, k3, z0⟩ := box_cells HBX.out
      go_wp2
      refine bodyPost_ret (reply_end rfl _ w.heap.size rfl Try.underlying31 (by kernel_rfl) HBX.out rfl _ _ _ _) rfl ⟨rfl, ?_⟩
      have ho := H.out.own
      refine ⟨_, SessAt.sess (((H.out.unwatched _).below b1).reply ?_ _ _ _ _), fun k hk => hk.imp id (fun e => by omega), ((((((Wr.refl F w).setCell (p := ⟨b, 2, none⟩) ho _).setCell (p := ⟨b, 5, none⟩) ho _).alloc _).alloc _).trans (Wr.of_below b1) (Grew.refl _ _)).reply (Nat.le_refl _) _ _ _ _⟩
      rintro (h1 | h1)
      · exact hn h1
      · omega
  · have hcl3 : (!S.multi && !S.dirty && !S.refused) = false := by simpa using hcl
    have hcl2 := clean_any H2.out
    rw [hcl3] at hcl2
    have HCl := Lib.hid hcl2
    clear hcl hcl2 hcl3 hsz hown
    go_enter Try.func28, Try.ntmps28
    go_wp2_with fail
    (refine HCl.out.mono ?_; rintro e w1 ⟨rfl, rfl⟩)
    go_wp2_with fail
    ((with_reducible refine (simple_any _ _).mono ?_); rintro e w1 ⟨rfl, b1⟩)
    have HBX := Lib.hid (show w1.heap[w.heap.size]? = some (.cells #[.int .i64 0, .string ⟨#[]⟩, .int .i64 0, .slice none 0 0] 31 (0, 0)) from by
      rw [b1.block _ (by simp [World.setCell]; omega), Below.heap_alloc _ _ _ (by simp [World.setCell])]
      have := heap_alloc_new ((w.setCell ⟨b, 2, none⟩ (.bool false)).setCell ⟨b, 5, none⟩ (.map (some (w.heap.size + 1)))) (.cells #[.int .i64 0, .string ⟨#[]⟩, .int .i64 0, .slice none 0 0] 31)
      rw [show ((w.setCell ⟨b, 2, none⟩ (.bool false)).setCell ⟨b, 5, none⟩ (.map (some (w.heap.size + 1)))).heap.size = w.heap.size by simp [World.setCell]] at this
      exact this)
    obtain ⟨k0, k1, k2, k3, z0⟩ := box_cells HBX.out
    go_wp2
    refine bodyPost_ret (reply_end rfl _ w.heap.size rfl Try.underlying31 (by kernel_rfl) HBX.out rfl _ _ _ _) rfl ⟨rfl, ?_⟩
    have ho := H.out.own
    refine ⟨_, SessAt.sess (((H.out.unwatched _).below b1).reply ?_ _ _ _ _), fun k hk => hk.imp id (fun e => by omega), ((((((Wr.refl F w).setCell (p := ⟨b, 2, none⟩) ho _).setCell (p := ⟨b, 5, none⟩) ho _).alloc _).alloc _).trans (Wr.of_below b1) (Grew.refl _ _)).reply (Nat.le_refl _) _ _ _ _⟩
    rintro (h1 | h1)
    · exact hn h1
    · omega
end Go.Proofs.Ytflhcffpfiameaa
