/- The walks of a session's methods: flags, replies, new and let go. -/
import Derived.Test.YtflhcffpfiameaaSess
namespace Go.Proofs.Ytflhcffpfiameaa
open Go.ChangeShapes Go.WideShapes Go.ChangeAt Go.RowKit
set_option linter.unusedVariables false

theorem bcell {W w1 : World} (hb : Below W.heap.size W w1) : (∀ b o, b < W.heap.size → w1.cell? ⟨b, o, none⟩ = W.cell? ⟨b, o, none⟩) ∧ (∀ b o, b < W.heap.size → w1.frozen? ⟨b, o, none⟩ = W.frozen? ⟨b, o, none⟩) :=
  ⟨fun b o h => hb.cell (p := ⟨b, o, none⟩) h, fun b o h => hb.frozen (p := ⟨b, o, none⟩) h⟩

set_option maxHeartbeats 400000 in
theorem refused_any {w : World} {b : Nat} {F : Nat → Prop} {S : SessM} (h : Sess w b F S) :
    Calls Try.prog 13 #[.pointer (some ⟨b, 0, none⟩)] w fun e w' => e = .returned (.bool S.refused) ∧ w = w' := by
  obtain ⟨qv, bm, D, h⟩ := h
  obtain ⟨c0, c1, c2, c3, c4, c5⟩ := h.cells
  go_enter Try.func13, Try.ntmps13
  go_wp2
  go_ret
  exact ⟨rfl, rfl⟩
theorem fault_any (s : ByteArray) (w : World) :
    Calls Try.prog 30 #[.string s] w fun e w' => e = .returned (replyV 2 s) ∧ Below w.heap.size w w' := by
  go_enter Try.func30, Try.ntmps30
  go_wp2
  exact bodyPost_ret (v := replyV 2 s) (by simp [results, Try.results30, go_sem]) rfl ⟨rfl, (Below.refl _ _).alloc (Nat.le_refl _) _⟩
theorem simple_any (s : ByteArray) (w : World) :
    Calls Try.prog 32 #[.string s] w fun e w' => e = .returned (replyV 1 s) ∧ Below w.heap.size w w' := by
  go_enter Try.func32, Try.ntmps32
  go_wp2
  exact bodyPost_ret (v := replyV 1 s) (by simp [results, Try.results32, go_sem]) rfl ⟨rfl, (Below.refl _ _).alloc (Nat.le_refl _) _⟩

theorem sess_fresh (w : World) (n : Nat) (h : n ≤ 1024) : Sess ((w.alloc (.map #[] 0)).alloc (.cells #[.int .i64 n, .bool false, .bool false, .bool false, .slice none 0 0, .map (some w.heap.size)] 59)) (w.heap.size + 1)
    (fun k => k = w.heap.size ∨ k = w.heap.size + 1) (.new n) := by
  refine ⟨.slice none 0 0, w.heap.size, .map [], ?_⟩
  exact {
    lt := fun k hk => by rcases hk with rfl | rfl <;> simp <;> omega
    own := .inr rfl
    places := h
    room := Nat.zero_le _
    few := by simp [SessM.new]
    lens := fun k hk => by simp [SessM.new] at hk
    nodup := List.nodup_nil
    block := by
      have := heap_alloc_new (w.alloc (.map #[] 0)) (.cells #[.int .i64 n, .bool false, .bool false, .bool false, .slice none 0 0, .map (some w.heap.size)] 59)
      rw [show (w.alloc (.map #[] 0)).heap.size = w.heap.size + 1 by simp] at this
      exact this
    ownM := .inl rfl
    map := (World.ownsMap_made w _ _ _).alloc _
    keys := KeysAre.none
    rows := RowsR.nil _ _ }
def NewPost (n : Nat) (w : World) (e : Ending) (w' : World) : Prop := ∃ b F, e = .returned (.tuple #[.pointer (some ⟨b, 0, none⟩), .int .i64 0]) ∧ Sess w' b F (.new n) ∧ (∀ k, F k → w.heap.size ≤ k) ∧ Below w.heap.size w w'
set_option maxHeartbeats 400000 in
theorem new_any (n : Nat) (h1 : 1 ≤ n) (h2 : n ≤ 1024) (w : World) :
    Calls Try.prog 8 #[.int .i64 n] w fun e w' => NewPost n w e w' := by
  have hmm := @run_makeMap Try.prog
  have hn1 : (1 : Int) ≤ (n : Int) := by omega
  have hn2 : (n : Int) ≤ 1024 := by omega
  go_enter Try.func8, Try.ntmps8
  go_wp2
  go_ret2
  exact ⟨_, _, rfl, sess_fresh w n h2, fun k hk => by rcases hk with rfl | rfl <;> omega, ((Below.refl _ _).alloc (Nat.le_refl _) _).alloc (by simp) _⟩

set_option maxHeartbeats 400000 in
theorem refuse_any {w : World} {b : Nat} {F : Nat → Prop} {S : SessM} (h : Sess w b F S) :
    Calls Try.prog 10 #[.pointer (some ⟨b, 0, none⟩)] w fun e w' => e = .returned (.tuple #[]) ∧ Sess w' b F { S with refused := S.refused || S.multi } ∧ Wr F w w' := by
  have H := Lib.hid h
  obtain ⟨qv, bm, D, h⟩ := h
  obtain ⟨c0, c1, c2, c3, c4, c5⟩ := h.cells
  have f3 := h.free 3
  have hlt := h.lt b h.own
  have h0 := h
  have h := Lib.hid h0
  clear h0
  obtain ⟨places, multi, dirty, refused, queue, keys⟩ := S
  rcases multi with _ | _
  · go_enter Try.func10, Try.ntmps10
    go_wp2_with fail
    ((with_reducible refine (multi_any H.out).mono ?_); rintro e w1 ⟨rfl, rfl⟩)
    go_wp2
    go_end0
    refine ⟨rfl, ?_, Wr.refl _ _⟩
    have := H.out
    simpa using this
  · go_enter Try.func10, Try.ntmps10
    go_wp2_with fail
    ((with_reducible refine (multi_any H.out).mono ?_); rintro e w1 ⟨rfl, rfl⟩)
    go_wp2
    go_end0
    refine ⟨rfl, ⟨qv, bm, D, ?_⟩, (Wr.refl _ _).setCell h.out.own _⟩
    have := h.out.setR true
    simpa using this
/-- Let go. -/
def SessM.gone (S : SessM) : SessM := .new S.places
set_option maxHeartbeats 400000 in
theorem reset_any {w : World} {b : Nat} {F : Nat → Prop} {S : SessM} (h : Sess w b F S) :
    Calls Try.prog 22 #[.pointer (some ⟨b, 0, none⟩)] w fun e w' => e = .returned (.tuple #[]) ∧ Sess w' b (fun k => F k ∨ k = w.heap.size) S.gone ∧ Wr F w w' ∧ (∀ k, k ≠ b → k < w.heap.size → w'.heap[k]? = w.heap[k]?) := by
  obtain ⟨qv, bm, D, h⟩ := h
  obtain ⟨c0, c1, c2, c3, c4, c5⟩ := h.cells
  have f0 := h.free 0
  have f1 := h.free 1
  have f2 := h.free 2
  have f3 := h.free 3
  have f4 := h.free 4
  have f5 := h.free 5
  have hlt := h.lt b h.own
  have hmm := @run_makeMap Try.prog
  have H := Lib.hid h
  clear h
  go_enter Try.func22, Try.ntmps22
  go_wp2
  go_end0
  have h := H.out
  have hw : Wr F w ((((((w.setCell ⟨b, 0, none⟩ (.int .i64 S.places)).setCell ⟨b, 1, none⟩ (.bool false)).setCell ⟨b, 2, none⟩ (.bool false)).setCell ⟨b, 3, none⟩ (.bool false)).setCell ⟨b, 4, none⟩ (.slice none 0 0)).setCell ⟨b, 5, none⟩ (.map (some w.heap.size))) :=
    ((((((Wr.refl F w).setCell h.own _).setCell h.own _).setCell h.own _).setCell h.own _).setCell h.own _).setCell h.own _
  refine ⟨rfl, ⟨.slice none 0 0, w.heap.size, .map [], ?_⟩, hw.alloc _, ?_⟩
  · have hsz : ((((((w.setCell ⟨b, 0, none⟩ (.int .i64 S.places)).setCell ⟨b, 1, none⟩ (.bool false)).setCell ⟨b, 2, none⟩ (.bool false)).setCell ⟨b, 3, none⟩ (.bool false)).setCell ⟨b, 4, none⟩ (.slice none 0 0)).setCell ⟨b, 5, none⟩ (.map (some w.heap.size))).heap.size = w.heap.size := by
      simp only [heap_setCell_size]
    exact {
      lt := fun k hk => by
        rcases hk with hk | rfl
        · have := h.lt k hk; simp [hsz]; omega
        · simp [hsz]
      own := .inl h.own
      places := h.places
      room := Nat.zero_le _
      few := by simp [SessM.gone, SessM.new]
      lens := fun k hk => by simp [SessM.gone, SessM.new] at hk
      nodup := List.nodup_nil
      block := by
        rw [Below.heap_alloc _ _ _ (by rw [hsz]; exact hlt)]
        rw [heap_setCell_same (heap_setCell_same (heap_setCell_same (heap_setCell_same (heap_setCell_same (heap_setCell_same h.block)))))]
        rfl
      ownM := .inr rfl
      map := by
        have := World.ownsMap_made ((((((w.setCell ⟨b, 0, none⟩ (.int .i64 S.places)).setCell ⟨b, 1, none⟩ (.bool false)).setCell ⟨b, 2, none⟩ (.bool false)).setCell ⟨b, 3, none⟩ (.bool false)).setCell ⟨b, 4, none⟩ (.slice none 0 0)).setCell ⟨b, 5, none⟩ (.map (some w.heap.size))) Try.prog 9 (plainElem (H := Unit) Try.prog 3)
        rw [hsz] at this
        exact this
      keys := KeysAre.none
      rows := RowsR.nil _ _ }
  · intro k hk hk2
    rw [Below.heap_alloc _ _ _ (by simp only [heap_setCell_size]; exact hk2)]
    rw [Below.heap_setCell _ _ _ _ hk, Below.heap_setCell _ _ _ _ hk, Below.heap_setCell _ _ _ _ hk, Below.heap_setCell _ _ _ _ hk, Below.heap_setCell _ _ _ _ hk, Below.heap_setCell _ _ _ _ hk]
set_option maxHeartbeats 400000 in
theorem begin_yes {w : World} {b : Nat} {F : Nat → Prop} {S : SessM} (h : Sess w b F S) (hm : S.multi = false) :
    Calls Try.prog 12 #[.pointer (some ⟨b, 0, none⟩)] w fun e w' => e = .returned (replyV 1 ⟨#[79, 75]⟩) ∧ Sess w' b F { S with multi := true } ∧ Wr F w w' := by
  obtain ⟨qv, bm, D, h⟩ := h
  obtain ⟨c0, c1, c2, c3, c4, c5⟩ := h.cells
  have f1 := h.free 1
  have hlt := h.lt b h.own
  have H := Lib.hid h
  clear h
  go_enter Try.func12, Try.ntmps12
  go_wp2_with fail
  ((with_reducible refine (simple_any _ _).mono ?_); rintro e w1 ⟨rfl, b1⟩)
  obtain ⟨hc, hf⟩ := bcell b1
  have hz := b1.size
  simp at hz
  go_wp2
  have h := H.out
  have hn : ¬ F w.heap.size := fun hk => Nat.lt_irrefl _ (h.lt _ hk)
  refine bodyPost_ret (v := replyV 1 ⟨#[79, 75]⟩) (reply_end rfl _ w.heap.size rfl Try.underlying31 (by kernel_rfl) (box_there (by simp) b1) rfl _ _ _ _) rfl ⟨rfl, ⟨qv, bm, D, ?_⟩, ?_⟩
  · exact (((h.setM true).alloc _).below b1).reply hn _ _ _ _
  · exact ((((Wr.refl F w).setCell h.own _).alloc _).trans (Wr.of_below b1) (Grew.refl _ _)).reply (Nat.le_refl _) _ _ _ _
end Go.Proofs.Ytflhcffpfiameaa
