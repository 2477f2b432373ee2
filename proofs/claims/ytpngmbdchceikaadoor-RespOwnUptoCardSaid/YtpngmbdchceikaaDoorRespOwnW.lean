/- The walk of RespOwn. -/
import Derived.Test.YtpngmbdchceikaaDoorSpoil
import Derived.Test.YtpngmbdchceikaaDoorOFeed
namespace Go.Proofs.YtpngmbdchceikaaDoor
open Go.ChangeShapes Go.WideShapes Go.ChangeAt Go.RowKit
open Pl (R Rd)
set_option linter.unusedVariables false

theorem LIs.mono2 {w : World} {F G : Nat → Prop} {v : Value} {l : List R} (h : LIs F w v l) (hF : ∀ b, F b → G b) : LIs G w v l := h.mono hF
/-- A row of replies of which the first j are laid, their lists in blocks behind it. -/
structure Fill (w : World) (g : Nat) (L : List R) (j : Nat) : Prop where
  own : ∃ xs, w.ownsRow 0 24 4 (.slice (some ⟨g, 0, none⟩) L.length L.length) L.length xs ∧ ∀ i r, i < j → L[i]? = some r → ∃ lv, xs[i * 4]? = some (.int .i64 r.k) ∧ xs[i * 4 + 1]? = some (.string (str r.t)) ∧ xs[i * 4 + 2]? = some (.int .i64 r.n) ∧ xs[i * 4 + 3]? = some lv ∧ LIs (fun b => g < b) w lv r.l
theorem Fill.lt {w : World} {g : Nat} {L : List R} {j : Nat} (h : Fill w g L j) : g < w.heap.size := by
  obtain ⟨xs, h1, _⟩ := h.own
  exact (h1.lt g (by simp [Value.ownBlock])).2
theorem Fill.free {w : World} {g : Nat} {L : List R} {j : Nat} (h : Fill w g L j) (i : Nat) : w.frozen? ⟨g, i, none⟩ = false := by
  obtain ⟨xs, h1, _⟩ := h.own
  exact World.ownsRow.frozenAt h1 i
theorem Fill.at {w : World} {g : Nat} {L : List R} {j i : Nat} (h : Fill w g L j) (hi : i < j) {r : R} (hr : L[i]? = some r) :
    ∃ lv, w.cell? ⟨g, i * 4, none⟩ = some (.int .i64 r.k) ∧ w.cell? ⟨g, i * 4 + 1, none⟩ = some (.string (str r.t)) ∧ w.cell? ⟨g, i * 4 + 2, none⟩ = some (.int .i64 r.n) ∧ w.cell? ⟨g, i * 4 + 3, none⟩ = some lv ∧ LIs (fun b => g < b) w lv r.l := by
  obtain ⟨xs, h1, h2⟩ := h.own
  have hl : i < L.length := (List.getElem?_eq_some_iff.1 hr).1
  obtain ⟨lv, a0, a1, a2, a3, a4⟩ := h2 i r hi hr
  have hc : ∀ k, k < 4 → w.cell? ⟨g, i * 4 + k, none⟩ = xs[i * 4 + k]? := fun k hk => World.ownsRow.cellAt h1 _ (by omega)
  exact ⟨lv, (hc 0 (by omega)).trans a0, (hc 1 (by omega)).trans a1, (hc 2 (by omega)).trans a2, (hc 3 (by omega)).trans a3, a4⟩
theorem Fill.spared {w w' : World} {g : Nat} {L : List R} {j : Nat} (h : Fill w g L j) (hs : w.heap.size ≤ w'.heap.size) (hb : ∀ b, g ≤ b → b < w.heap.size → w'.heap[b]? = w.heap[b]?) : Fill w' g L j := by
  have hg := h.lt
  obtain ⟨xs, h1, h2⟩ := h.own
  refine ⟨xs, owns_kept h1 fun k hk => ?_, fun i r hi hr => ?_⟩
  · simp [Value.ownBlock] at hk; subst hk; exact hb _ (Nat.le_refl _) hg
  · obtain ⟨lv, a0, a1, a2, a3, a4⟩ := h2 i r hi hr
    exact ⟨lv, a0, a1, a2, a3, a4.kept hs fun b h3 h4 => hb b (by omega) h4⟩
theorem Fill.later {w w' : World} {g : Nat} {L : List R} {j : Nat} (h : Fill w g L j) (hb : Below w.heap.size w w') : Fill w' g L j := h.spared hb.size fun b _ hlt => hb.block b hlt
theorem Fill.wr {w w' : World} {F : Nat → Prop} {g : Nat} {L : List R} {j : Nat} (h : Fill w g L j) (hw : Wr F w w') (hd : ∀ b, F b → b < g) : Fill w' g L j := h.spared hw.size fun b h1 h2 => hw.block b h2 fun e => by have := hd b e; omega
theorem Fill.store {w : World} {g : Nat} {L : List R} {j : Nat} (h : Fill w g L j) {r : R} (hr : L[j]? = some r) {lv : Value} (hL : LIs (fun b => g < b) w lv r.l) :
    Fill ((((w.setCell ⟨g, j * 4, none⟩ (.int .i64 r.k)).setCell ⟨g, j * 4 + 1, none⟩ (.string (str r.t))).setCell ⟨g, j * 4 + 2, none⟩ (.int .i64 r.n)).setCell ⟨g, j * 4 + 3, none⟩ lv) g L (j + 1) := by
  obtain ⟨xs, h1, h2⟩ := h.own
  have hl : j < L.length := (List.getElem?_eq_some_iff.1 hr).1
  have hxs : xs.length = L.length * 4 := h1.1
  have b1 := (World.ownsRow.stored h1 (j * 4) (.int .i64 r.k)).1
  have b2 := (World.ownsRow.stored b1 (j * 4 + 1) (.string (str r.t))).1
  have b3 := (World.ownsRow.stored b2 (j * 4 + 2) (.int .i64 r.n)).1
  have b4 := (World.ownsRow.stored b3 (j * 4 + 3) lv).1
  have hkept : ∀ {u : Value} {l : List R}, LIs (fun b => g < b) w u l → LIs (fun b => g < b) ((((w.setCell ⟨g, j * 4, none⟩ (.int .i64 r.k)).setCell ⟨g, j * 4 + 1, none⟩ (.string (str r.t))).setCell ⟨g, j * 4 + 2, none⟩ (.int .i64 r.n)).setCell ⟨g, j * 4 + 3, none⟩ lv) u l := fun h => h.kept (by simp [World.setCell]) fun b h3 h4 => by
    rw [heap_setCell_other _ _ _ _ (by simp; omega), heap_setCell_other _ _ _ _ (by simp; omega), heap_setCell_other _ _ _ _ (by simp; omega), heap_setCell_other _ _ _ _ (by simp; omega)]
  refine ⟨_, b4, fun i q hi hq => ?_⟩
  rcases Nat.lt_or_ge i j with hij | hij
  · obtain ⟨u, a0, a1, a2, a3, a4⟩ := h2 i q hij hq
    refine ⟨u, ?_, ?_, ?_, ?_, hkept a4⟩
    all_goals (rw [List.getElem?_set_ne (by omega), List.getElem?_set_ne (by omega), List.getElem?_set_ne (by omega), List.getElem?_set_ne (by omega)]; assumption)
  · obtain rfl : i = j := by omega
    rw [hr] at hq
    obtain rfl : r = q := by simpa using hq
    refine ⟨lv, ?_, ?_, ?_, ?_, hkept hL⟩
    · rw [List.getElem?_set_ne (by omega), List.getElem?_set_ne (by omega), List.getElem?_set_ne (by omega), List.getElem?_set_self (by omega)]
    · rw [List.getElem?_set_ne (by omega), List.getElem?_set_ne (by omega), List.getElem?_set_self (by simp; omega)]
    · rw [List.getElem?_set_ne (by omega), List.getElem?_set_self (by simp; omega)]
    · rw [List.getElem?_set_self (by simp; omega)]
section
variable {rest : List Oper} {ops : Array Oper} {o : Oper} {a : Act} {Q : Exit → Act → World → Prop}
/-- 'make([]api.Reply, n)'. -/
theorem wpList_make_r {w : World} (hgd : o.guard = none) (l c : Operand) (ho : o.op = .makeSlice 22 l c) (L : List R) (hl : a.eval l = .int .i64 (L.length : Int)) (hc : a.eval c = .int .i64 (L.length : Int)) (hn : L.length ≤ 1073741824)
    (h : ∀ w', Fill w' w.heap.size L 0 → Below w.heap.size w w' → wpList Tryd.prog ops Q rest (a.put o.dst (.slice (some ⟨w.heap.size, 0, none⟩) L.length L.length)) w') :
    wpList Tryd.prog ops Q (o :: rest) a w := by
  refine wpList_plain hgd fun K hK => ?_
  obtain ⟨i, hi, hz, hsz, hby⟩ := info_parts infoR
  obtain ⟨w', hr, h2, h3⟩ := run_make_full (P := Tryd.prog) w w.heap.size 22 24 i _ 4 Tryd.underlying22 hi hz hsz .i64 .i64 L.length (by rw [hby]; omega) (by unfold maxLen; omega) (Nat.le_refl _)
  unfold Oper.wp
  simp [execOp, ho, hl, hc, hr, Result.andThen]
  exact hK _ _ (h w' ⟨_, owns_base h2 fun _ _ => Nat.zero_le _, fun i r hi _ => absurd hi (Nat.not_lt_zero _)⟩ ((Below.refl _ _).grown h3 (Nat.le_refl _) fun k hk => by cases hk))
end
set_option maxRecDepth 100000 in
set_option maxHeartbeats 1600000 in
theorem feed_nil (S : ByteArray) (w : World) : Calls Tryd.prog 23 #[.pointer none, .string S] w fun e w' => e = .returned (.tuple #[.slice none 0 0, .int .i64 30]) ∧ Below w.heap.size w w' := by
  go_enter Tryd.func23, Tryd.ntmps23
  go_wp2
  go_ret2
  exact ⟨rfl, Below.refl _ _⟩
theorem HalfO.kept {w w' : World} {F : Nat → Prop} {v : Value} {l : List R} {j : Nat} (h : HalfO w F v l j) (hb : ∀ b, F b → b < w.heap.size → w'.heap[b]? = w.heap[b]?) : HalfO w' F v l j := by
  rcases h with ⟨rfl, xs, h1, h2⟩ | ⟨g, cap, ps, Fs, rfl, rfl, h3, h4, h5, h6⟩
  · exact .inl ⟨rfl, xs, owns_kept h1 fun k hk => hb k (h2 k hk) (h1.lt k hk).2, h2⟩
  · obtain ⟨xs, h7, h8⟩ := h4.own
    exact .inr ⟨g, cap, ps, Fs, rfl, rfl, h3, ⟨⟨xs, owns_kept h7 fun k hk => by
      have := (h7.lt k hk).2
      simp [Value.ownBlock] at hk; subst hk
      exact hb _ h3 this, h8⟩, fun i p hi hp => (h4.el i p hi hp).kept fun b hb1 hb2 => hb b (h5 i b hb1).1 hb2⟩, h5, h6⟩
theorem Fill.got {w : World} {g : Nat} {L : List R} {j : Nat} (h : Fill w g L j) {i : Nat} (hi : i < L.length * 4) : ∃ u, w.cell? ⟨g, i, none⟩ = some u := by
  obtain ⟨xs, h1, _⟩ := h.own
  have hl : xs.length = L.length * 4 := h1.1
  exact ⟨xs[i]'(by omega), (World.ownsRow.cellAt h1 i (by omega)).trans (List.getElem?_eq_getElem (by omega))⟩
/-- An element of the row. -/
theorem HalfO.at {w : World} {F : Nat → Prop} {ao : Option Addr} {cp : Nat} {l : List R} {j i : Nat} (h : HalfO w F (.slice ao l.length cp) l j) (hi : j ≤ i) (hl : i < l.length) : ∃ g r lv Fs, ao = some ⟨g, 0, none⟩ ∧ F g ∧ l[i]? = some r ∧ OkR r ∧
    w.cell? ⟨g, i * 4, none⟩ = some (.int .i64 r.k) ∧ w.cell? ⟨g, i * 4 + 1, none⟩ = some (.string (str r.t)) ∧ w.cell? ⟨g, i * 4 + 2, none⟩ = some (.int .i64 r.n) ∧ w.cell? ⟨g, i * 4 + 3, none⟩ = some lv ∧ ORow w Fs lv r.l ∧ (∀ b, Fs b → F b) ∧
    ∀ w', i = j → Wr Fs w w' → HalfO w' F (.slice ao l.length cp) l (j + 1) := by
  rcases h with ⟨rfl, -⟩ | ⟨g, cap, ps, Fs, h1, h2, h3, h4, h5, h6, h7⟩
  · simp at hl
  · obtain ⟨rfl, rfl⟩ : ao = some ⟨g, 0, none⟩ ∧ cp = cap := by simp only [Value.slice.injEq] at h1; exact ⟨h1.1, h1.2.2⟩
    obtain ⟨p, hp⟩ : ∃ p, ps[i]? = some p := ⟨_, List.getElem?_eq_getElem (by rw [← h2, List.length_map] at hl; exact hl)⟩
    obtain ⟨k0, k1, k2, k3⟩ := h4.at hi hp
    refine ⟨g, p.1, p.2, Fs i, rfl, h3, by rw [← h2, List.getElem?_map, hp]; rfl, h7 p (List.mem_of_getElem? hp), k0, k1, k2, k3, h4.el i p hi hp, fun b hb => (h5 i b hb).1, fun w' e hw => ?_⟩
    subst e
    exact .inr ⟨g, cp, ps, Fs, rfl, h2, h3, h4.wr hw (fun i b hb => (h5 i b hb).2) h6, h5, h6, h7⟩
set_option maxRecDepth 100000 in
set_option maxHeartbeats 6400000 in
theorem respOwn_walk (S : ByteArray) (hS : S.size ≤ 134217728) (w : World) (hE : Env w) :
    Calls Tryd.prog 10 #[.string S] w fun e w' => e = .returned (.bool true) ∧ Below w.heap.size w w' := by
  have hok := rdR_ok 8 S.data.toList (by simp; omega)
  obtain ⟨r, hr⟩ : ∃ r, rdR (Pl.rd 8 S.data.toList) = r := ⟨_, rfl⟩
  obtain ⟨k, hk⟩ : ∃ k, rdK (Pl.rd 8 S.data.toList) = k := ⟨_, rfl⟩
  obtain ⟨c, hc⟩ : ∃ c, rdE (Pl.rd 8 S.data.toList) = c := ⟨_, rfl⟩
  rw [hr] at hok
  have HD := Lib.hid (fun W h => odecode_uni S (by omega) hr hk hc W h)
  have HR := Lib.hid (fun W => refDecode_uni S (by omega) hr hk hc W)
  unfold OdUni at HD
  unfold RdUni at HR
  have HS := Lib.hid (fun (lv lv' : Value) (F F' : Nat → Prop) (W : World) (h : LIs F W lv r.l) (h' : LIs F' W lv' r.l) => same_any r lv lv' F F' W hok h h')
  have HE := Lib.hid hE
  have HA := Lib.hid (fun W (h : Env W) => awake_any W h)
  have HN0 := Lib.hid (fun W => feed_nil S W)
  have HN1 := Lib.hid (fun W => held_nil W)
  have HSp := Lib.hid (fun lv F W (h : ORow W F lv r.l) => spoil_any r lv F W hok h)
  have HNw := Lib.hid (fun W => new_any W)
  obtain ⟨T, hT⟩ : ∃ T, S ++ S = T := ⟨_, rfl⟩
  have hTs : T.size ≤ 1073741824 := by rw [← hT, ByteArray.size_append]; omega
  have hsum : S.size + S.size ≤ 9223372036854775807 := by omega
  obtain ⟨L, hL⟩ : ∃ L, (Pl.fed T.data.toList).1 = L := ⟨_, rfl⟩
  have hLl : L.length ≤ 1073741824 := by
    have := Pl.fed_count (T.data.toList.length + 1) T.data.toList (Nat.lt_succ_self _)
    rw [hL] at this
    simp at this
    omega
  have HFd := Lib.hid (fun (w0 : World) (h0 : Env w0) g v W (hb : Below w0.heap.size w0 W) (hg : w0.heap.size ≤ g) (hD : DecIs W g v (some [])) => (ofeed_some w0 h0 g v [] T (by simp; omega) W hb hg hD).mono fun e w' h => (show ∃ lv cc, e = .returned (.tuple #[lv, .int .i64 cc]) ∧ WRow W.heap.size w' lv L ∧ But g W w' from by
    obtain ⟨lv, h1, h2, -, h4⟩ := h
    rw [List.nil_append, hL] at h2
    exact ⟨lv, _, h1, h2, h4⟩))
  have hTe : (.string (S ++ S) : Value) = .string T := by rw [hT]
  clear hE hr hk hc hok hL
  go_enter Tryd.func10, Tryd.ntmps10
  go_wp2_with fail
  ((with_reducible refine (HN0.out _).mono ?_); rintro e w1 ⟨rfl, b1⟩)
  have B1 := Lib.hid b1
  clear b1
  go_wp2_with fail
  ((with_reducible refine (HN1.out _).mono ?_); rintro e w2 ⟨rfl, b2⟩)
  have B2 := Lib.hid (B1.out.trans (b2.mono B1.out.size))
  clear b2
  go_wp2_with fail
  ((with_reducible refine (HR.out _).mono ?_); rintro e w3 ⟨⟨lv3, rfl, r3⟩, b3⟩)
  obtain ⟨a3, c3, rfl⟩ := r3.shape
  have B3 := Lib.hid (B2.out.trans (b3.mono B2.out.size))
  have L3 := Lib.hid r3.lis
  clear r3 b3
  obtain ⟨w4, hw4⟩ : ∃ w4, w3.alloc (.cells #[.int .i64 r.k, .string (str r.t), .int .i64 r.n, .slice a3 r.l.length c3] 24) = w4 := ⟨_, rfl⟩
  have D4 := Lib.hid (show Below w3.heap.size w3 w4 by rw [← hw4]; exact (Below.refl _ _).alloc (Nat.le_refl _) _)
  have G4 := Lib.hid (show Blk4 w4 w3.heap.size (.int .i64 r.k) (.string (str r.t)) (.int .i64 r.n) (.slice a3 r.l.length c3) by rw [← hw4]; exact Blk4.new rfl)
  have hz4 : w4.heap.size = w3.heap.size + 1 := by rw [← hw4]; simp
  go_wp2_with fail
  ((with_reducible refine (HD.out _ (HE.out.kept (B3.out.trans (D4.out.mono B3.out.size)))).mono ?_); rintro e w5 ⟨⟨lv5, rfl, r5⟩, b5⟩)
  obtain ⟨a5, c5, rfl⟩ := r5.shape
  have B5 := Lib.hid ((B3.out.trans (D4.out.mono B3.out.size)).trans (b5.mono (Nat.le_trans B3.out.size D4.out.size)))
  have D5 := Lib.hid (D4.out.trans (b5.mono D4.out.size))
  have G5 := Lib.hid (G4.out.later b5)
  have R5 := Lib.hid (ORow.lt r5)
  have hz5 := b5.size
  clear r5 b5
  obtain ⟨w6, hw6⟩ : ∃ w6, w5.alloc (.cells #[.int .i64 r.k, .string (str r.t), .int .i64 r.n, .slice a5 r.l.length c5] 24) = w6 := ⟨_, rfl⟩
  have hb6 : Below w5.heap.size w5 w6 := by rw [← hw6]; exact (Below.refl _ _).alloc (Nat.le_refl _) _
  have B6 := Lib.hid (B5.out.trans (hb6.mono B5.out.size))
  have D6 := Lib.hid (D5.out.trans (hb6.mono D5.out.size))
  have G6 := Lib.hid (G5.out.later hb6)
  have R6 := Lib.hid (R5.out.later hb6)
  have K6 := Lib.hid (show Blk4 w6 w5.heap.size (.int .i64 r.k) (.string (str r.t)) (.int .i64 r.n) (.slice a5 r.l.length c5) by rw [← hw6]; exact Blk4.new rfl)
  have hz6 : w6.heap.size = w5.heap.size + 1 := by rw [← hw6]; simp
  clear hb6
  go_wp2_with fail
  ((with_reducible refine (HD.out _ (HE.out.kept B6.out)).mono ?_); rintro e w7 ⟨⟨lv7, rfl, r7⟩, b7⟩)
  obtain ⟨a7, c7, rfl⟩ := r7.shape
  have hz7 := b7.size
  obtain ⟨w8, hw8⟩ : ∃ w8, w7.alloc (.cells #[.int .i64 r.k, .string (str r.t), .int .i64 r.n, .slice a7 r.l.length c7] 24) = w8 := ⟨_, rfl⟩
  have hb8 : Below w7.heap.size w7 w8 := by rw [← hw8]; exact (Below.refl _ _).alloc (Nat.le_refl _) _
  have hb68 := b7.trans (hb8.mono b7.size)
  have B8 := Lib.hid (B6.out.trans (hb68.mono B6.out.size))
  have D8 := Lib.hid (D6.out.trans (hb68.mono D6.out.size))
  have G8 := Lib.hid (G6.out.later hb68)
  have R8 := Lib.hid (R6.out.later hb68)
  have K8 := Lib.hid (K6.out.later hb68)
  have M8 := Lib.hid ((ORow.lt r7).later hb8)
  have J8 := Lib.hid (show Blk4 w8 w7.heap.size (.int .i64 r.k) (.string (str r.t)) (.int .i64 r.n) (.slice a7 r.l.length c7) by rw [← hw8]; exact Blk4.new rfl)
  have hz8 : w8.heap.size = w7.heap.size + 1 := by rw [← hw8]; simp
  obtain ⟨k0, k1, k2, k3⟩ := K8.out.cells
  have hLt := L3.out
  clear hb8 hb68 r7 b7
  go_wp2_with fail
  (refine (HSp.out _ _ _ R8.out).mono ?_; rintro e w9 ⟨rfl, h9⟩)
  have hzB := B3.out.size
  have D9 := D8.out.trans (h9.below (B := w3.heap.size) (fun b hb => by omega) (by omega))
  have B9 := Lib.hid (B8.out.trans (h9.below (B := w.heap.size) (fun b hb => by omega) (by omega)))
  have G9 := Lib.hid (G8.out.wr h9 (fun hb => by omega))
  have J9 := Lib.hid (J8.out.wr h9 (fun hb => by omega))
  have L9 := Lib.hid (L3.out.kept D9.size fun b _ hlt => D9.block b hlt)
  have M9 := Lib.hid ((M8.out.wr h9 (fun b hb hb2 => by omega)).lis)
  have hz9 := h9.size
  have hg9 : w3.heap.size < w9.heap.size := by omega
  have hj9 : w7.heap.size < w9.heap.size := by omega
  clear D9 h9 k0 k1 k2 k3 hLt R8 R6 R5 M8 D8 D6 D5 D4 B8 B6 B5 B3 G8 G6 G5 G4 K8 K6 J8 hw4 hw6 hw8
  go_wp2_with fail
  (refine (HNw.out _).mono ?_; rintro e w10 ⟨rfl, d10, b10, s10⟩)
  have E9 := Lib.hid (HE.out.kept B9.out)
  have D10 := Lib.hid d10
  have B10 := Lib.hid b10
  clear d10 b10
  go_wp2_with fail
  (refine (HFd.out w9 E9.out _ _ _ B10.out (Nat.le_refl _) D10.out).mono ?_; rintro e w11 ⟨lv, cc, rfl, r11, n11⟩)
  obtain ⟨al, cl, rfl⟩ := r11.shape
  have B11 := Lib.hid (B10.out.trans (n11.below (Nat.le_refl _) (by omega)))
  have H11 := Lib.hid (show HalfO w11 (fun b => w9.heap.size + 2 ≤ b ∧ b < w11.heap.size) (.slice al L.length cl) L 0 from by have := HalfO.of (ORow.lt r11); rw [s10] at this; exact this)
  have hz11 := n11.size
  clear r11 n11 D10
  go_wp2_with (refine wpList_make_r rfl (.tmp 79) (.tmp 79) rfl L rfl rfl hLl ?_; intro w12 f12 b12; have F12 := Lib.hid f12; have H12 := Lib.hid (H11.out.later b12); have B12 := Lib.hid (B11.out.trans (b12.mono B11.out.size)); clear f12 b12)
  go_loopw [19] (fun i wr => ∃ (j : Nat), j ≤ L.length ∧ i = .int .i64 j ∧ Hid (HalfO wr (fun b => w9.heap.size + 2 ≤ b ∧ b < w11.heap.size) (.slice al L.length cl) L 0) ∧ Hid (Fill wr w11.heap.size L j) ∧ Hid (Below w9.heap.size w9 wr)) (fun i _ => L.length - (intOf i).toNat)
  case atStart => exact ⟨0, Nat.zero_le _, rfl, H12.out, F12.out, B12.out⟩
  case round =>
    obtain ⟨j, hj, rfl, hH, hF, hB⟩ := hrel
    by_cases hlt : j < L.length
    · obtain ⟨g, r2, lv2, Fs, rfl, hFg, hr2, hok2, k0, k1, k2, k3, hel, hsub, -⟩ := hH.out.at (Nat.zero_le j) hlt
      have HEl := Lib.hid hel.lis
      obtain ⟨a2, c2, rfl⟩ := hel.shape
      have HT := Lib.hid (twin_any r2 (.slice a2 r2.l.length c2) Fs wr hok2)
      have HR := Lib.hid hr2
      have hltI : (j : Int) < (L.length : Int) := by omega
      have hj0 : (0 : Int) ≤ (j : Int) := by omega
      have hf := hF.out.lt
      have hgl := hFg.2
      have hbl := hB.out.size
      clear hel hsub hFg hr2 hok2
      go_wp2_with fail
      (refine (HT.out HEl.out).mono ?_; rintro e w14 ⟨v14, rfl, r14, b14⟩)
      obtain ⟨a14, c14, rfl⟩ := r14.shape
      have F14 := Lib.hid (hF.out.later b14)
      have H14 := Lib.hid (hH.out.later b14)
      have B14 := Lib.hid (hB.out.trans (b14.mono hbl))
      have L14 := Lib.hid (show LIs (fun b => w11.heap.size < b) w14 (.slice a14 r2.l.length c14) r2.l from r14.lis.mono fun b hb => by have := hb; omega)
      have hfr := F14.out.free
      obtain ⟨z0, hz0⟩ := F14.out.got (i := j * 4) (by omega)
      obtain ⟨z1, hz1⟩ := F14.out.got (i := j * 4 + 1) (by omega)
      obtain ⟨z2, hz2⟩ := F14.out.got (i := j * 4 + 2) (by omega)
      obtain ⟨z3, hz3⟩ := F14.out.got (i := j * 4 + 3) (by omega)
      have hz14 := b14.size
      clear r14 b14 k0 k1 k2 k3
      go_wp2
      go_roundw
      case rel =>
        have hoff : ∀ b, w9.heap.size + 2 ≤ b ∧ b < w11.heap.size → b ≠ w11.heap.size := fun b hb => by omega
        have hset : ∀ (W : World) (i : Nat) (u : Value), HalfO W (fun b => w9.heap.size + 2 ≤ b ∧ b < w11.heap.size) (.slice (some ⟨g, 0, none⟩) L.length cl) L 0 → HalfO (W.setCell ⟨w11.heap.size, i, none⟩ u) (fun b => w9.heap.size + 2 ≤ b ∧ b < w11.heap.size) (.slice (some ⟨g, 0, none⟩) L.length cl) L 0 := fun W i u h => h.kept fun b hb _ => heap_setCell_other _ _ _ _ (by simp; omega)
        exact ⟨j + 1, by omega, by go_num, hset _ _ _ (hset _ _ _ (hset _ _ _ (hset _ _ _ H14.out))), F14.out.store HR.out L14.out, (((B14.out.setCell (by simp; omega) _).setCell (by simp; omega) _).setCell (by simp; omega) _).setCell (by simp; omega) _⟩
      case measure => simp [intOf]; omega
    · obtain rfl : j = L.length := by omega
      by_cases hpos : 0 < L.length
      · obtain ⟨g0, r2, lv2, Fs, rfl, hFg, hr2, hok2, k0, k1, k2, k3, hel, hsub, hnext⟩ := hH.out.at (Nat.le_refl 0) hpos
        obtain ⟨a2, c2, rfl⟩ := hel.shape
        have HEl := Lib.hid hel
        have HSq := Lib.hid (fun W (h : ORow W Fs (.slice a2 r2.l.length c2) r2.l) => spoil_any r2 (.slice a2 r2.l.length c2) Fs W hok2 h)
        have Hsub := Lib.hid hsub
        have Hnx := Lib.hid hnext
        have hposI : (0 : Int) < (L.length : Int) := by omega
        have hf := hF.out.lt
        have hbl := hB.out.size
        simp only [Nat.zero_mul, Nat.zero_add] at k0 k1 k2 k3
        clear hel hsub hnext hFg hr2 hok2
        go_wp2_with fail
        (refine (HSq.out _ HEl.out).mono ?_; rintro e wv ⟨rfl, h14⟩)
        have H13 := Lib.hid (Hnx.out _ (by simp) h14)
        have F13 := Lib.hid (hF.out.wr h14 fun b hb => (Hsub.out b hb).2)
        have B13 := Lib.hid (hB.out.trans (h14.below (B := w9.heap.size) (fun b hb => by have := (Hsub.out b hb).1; omega) hbl))
        clear h14 k0 k1 k2 k3
        go_wp2_with fail
        go_loopw [20] (fun i wr => ∃ (j : Nat), 1 ≤ j ∧ (j ≤ L.length ∨ j = 1) ∧ i = .int .i64 j ∧ Hid (Below wv.heap.size wv wr)) (fun i _ => L.length - (intOf i).toNat)
        case atStart => exact ⟨1, Nat.le_refl _, .inr rfl, rfl, Below.refl _ _⟩
        case round =>
          obtain ⟨j, hj1, hj2, rfl, hb⟩ := hrel
          by_cases hlt : j < L.length
          · obtain ⟨g, r2, lv2, Fs, hal, hFg, hr2, hok2, k0, k1, k2, k3, hel, hsub, -⟩ := H13.out.at hj1 hlt
            first | (subst hal) | (obtain rfl : g = g0 := by simpa using hal.symm)
            obtain ⟨lv3, m0, m1, m2, m3, m4⟩ := F13.out.at hlt hr2
            have hbl := hb.out.size
            have hlk := Lib.hid ((hel.lis).kept hb.out.size fun b _ h => hb.out.block b h)
            have hmk := Lib.hid (m4.kept hb.out.size fun b _ h => hb.out.block b h)
            obtain ⟨a2, c2, rfl⟩ := hel.shape
            obtain ⟨a3, c3, rfl⟩ := m4.shape
            have hf13 := F13.out.lt
            have hg13 : g < wv.heap.size := by have := hFg.2; omega
            have q0 := (hb.out.cell (p := ⟨g, j * 4, none⟩) hg13).trans k0
            have q1 := (hb.out.cell (p := ⟨g, j * 4 + 1, none⟩) hg13).trans k1
            have q2 := (hb.out.cell (p := ⟨g, j * 4 + 2, none⟩) hg13).trans k2
            have q3 := (hb.out.cell (p := ⟨g, j * 4 + 3, none⟩) hg13).trans k3
            have p0 := (hb.out.cell (p := ⟨w11.heap.size, j * 4, none⟩) hf13).trans m0
            have p1 := (hb.out.cell (p := ⟨w11.heap.size, j * 4 + 1, none⟩) hf13).trans m1
            have p2 := (hb.out.cell (p := ⟨w11.heap.size, j * 4 + 2, none⟩) hf13).trans m2
            have p3 := (hb.out.cell (p := ⟨w11.heap.size, j * 4 + 3, none⟩) hf13).trans m3
            have hltI : (j : Int) < (L.length : Int) := by omega
            have hj0 : (0 : Int) ≤ (j : Int) := by omega
            have HSm := Lib.hid (fun (lv lv' : Value) (F F' : Nat → Prop) (W : World) (h : LIs F W lv r2.l) (h' : LIs F' W lv' r2.l) => same_any r2 lv lv' F F' W hok2 h h')
            have hcell : ∀ {p : Addr} {v : Value}, p.block < wr.heap.size → wr.cell? p = some v → ∀ W, Below wr.heap.size wr W → W.cell? p = some v := fun hp h W hW => (hW.cell hp).trans h
            have hgr : g < wr.heap.size := by omega
            have hfr : w11.heap.size < wr.heap.size := by omega
            have KC := Lib.hid (show ∀ W, Below wr.heap.size wr W → W.cell? ⟨g, j * 4, none⟩ = some (.int .i64 r2.k) ∧ W.cell? ⟨g, j * 4 + 1, none⟩ = some (.string (str r2.t)) ∧ W.cell? ⟨g, j * 4 + 2, none⟩ = some (.int .i64 r2.n) ∧ W.cell? ⟨g, j * 4 + 3, none⟩ = some (.slice a2 r2.l.length c2) ∧ W.cell? ⟨w11.heap.size, j * 4, none⟩ = some (.int .i64 r2.k) ∧ W.cell? ⟨w11.heap.size, j * 4 + 1, none⟩ = some (.string (str r2.t)) ∧ W.cell? ⟨w11.heap.size, j * 4 + 2, none⟩ = some (.int .i64 r2.n) ∧ W.cell? ⟨w11.heap.size, j * 4 + 3, none⟩ = some (.slice a3 r2.l.length c3) from
              fun W h => ⟨hcell hgr q0 W h, hcell hgr q1 W h, hcell hgr q2 W h, hcell hgr q3 W h, hcell hfr p0 W h, hcell hfr p1 W h, hcell hfr p2 W h, hcell hfr p3 W h⟩)
            clear k0 k1 k2 k3 m0 m1 m2 m3 m4 hel hsub hFg hr2 hok2 hcell q0 q1 q2 q3 p0 p1 p2 p3
            go_wp2_with fail
            refine wp_region_held_drew (S := (fun W => Below wr.heap.size wr W ∧ W.cell? ⟨g, j * 4, none⟩ = some (.int .i64 r2.k) ∧ W.cell? ⟨g, j * 4 + 1, none⟩ = some (.string (str r2.t)) ∧ W.cell? ⟨g, j * 4 + 2, none⟩ = some (.int .i64 r2.n) ∧ W.cell? ⟨g, j * 4 + 3, none⟩ = some (.slice a2 r2.l.length c2) ∧ W.cell? ⟨w11.heap.size, j * 4, none⟩ = some (.int .i64 r2.k) ∧ W.cell? ⟨w11.heap.size, j * 4 + 1, none⟩ = some (.string (str r2.t)) ∧ W.cell? ⟨w11.heap.size, j * 4 + 2, none⟩ = some (.int .i64 r2.n) ∧ W.cell? ⟨w11.heap.size, j * 4 + 3, none⟩ = some (.slice a3 r2.l.length c3))) (by kernel_rfl) ?_ (fun hHeld => ?_)
            · refine (fun h => And.intro h (KC.out _ h)) ?_; first | assumption | exact Below.refl _ _ | exact (Below.refl _ _).drew | exact hHeld.1.trans (bx.mono hHeld.1.size) | exact hHeld.1.trans ((bx.mono hHeld.1.size).drew) | exact Below.drew ‹_›
            refine wpAnyH_take (i := 0) (oi := (Go.Oper.mk (some 108) (Go.Op.move (Go.Operand.tmp 16)) 22 _ #[] none)) (v := ?_) rfl (by kernel_rfl) (by kernel_rfl) (by kernel_rfl) (fun _ _ _ h => h) (Or.inl ⟨by rfl, ?_⟩) hHeld ?_
            rotate_left
            · intro w hSw; (try dsimp only at hSw); go_simp; (try with_reducible rfl)
            simp only [Act.put, List.setIfInBounds_toArray, List.set_cons_zero, List.set_cons_succ]
            refine wpAnyH_take (i := 1) (oi := (Go.Oper.mk (some 109) (Go.Op.move (Go.Operand.tmp 20)) 3 _ #[] none)) (v := ?_) rfl (by kernel_rfl) (by kernel_rfl) (by kernel_rfl) (fun _ _ _ h => h) (Or.inl ⟨by rfl, ?_⟩) hHeld ?_
            rotate_left
            · intro w hSw; (try dsimp only at hSw); go_simp; (try with_reducible rfl)
            simp only [Act.put, List.setIfInBounds_toArray, List.set_cons_zero, List.set_cons_succ]
            refine wpAnyH_take (i := 2) (oi := (Go.Oper.mk (some 110) (Go.Op.indexAddr 22 (Go.Operand.tmp 108) (Go.Operand.tmp 109)) 0 _ #[Go.Edge.mk 0 Go.Ground.data, Go.Edge.mk 1 Go.Ground.data] none)) (v := ?_) rfl (by kernel_rfl) (by kernel_rfl) (by kernel_rfl) (fun _ _ _ h => h) (Or.inl ⟨by rfl, ?_⟩) hHeld ?_
            rotate_left
            · intro w hSw; (try dsimp only at hSw); go_simp; (try with_reducible rfl)
            simp only [Act.put, List.setIfInBounds_toArray, List.set_cons_zero, List.set_cons_succ]
            refine wpAnyH_take (i := 3) (oi := (Go.Oper.mk (some 111) (Go.Op.load 24 (Go.Operand.tmp 110)) 24 _ #[Go.Edge.mk 2 Go.Ground.data] none)) (v := ?_) rfl (by kernel_rfl) (by kernel_rfl) (by kernel_rfl) (fun _ _ _ h => h) (Or.inl ⟨by rfl, ?_⟩) hHeld ?_
            rotate_left
            · intro w hSw; (try dsimp only at hSw); go_simp; (try with_reducible rfl)
            simp only [Act.put, List.setIfInBounds_toArray, List.set_cons_zero, List.set_cons_succ]
            refine wpAnyH_take (i := 4) (oi := (Go.Oper.mk (some 112) (Go.Op.move (Go.Operand.tmp 18)) 22 _ #[] none)) (v := ?_) rfl (by kernel_rfl) (by kernel_rfl) (by kernel_rfl) (fun _ _ _ h => h) (Or.inl ⟨by rfl, ?_⟩) hHeld ?_
            rotate_left
            · intro w hSw; (try dsimp only at hSw); go_simp; (try with_reducible rfl)
            simp only [Act.put, List.setIfInBounds_toArray, List.set_cons_zero, List.set_cons_succ]
            refine wpAnyH_take (i := 5) (oi := (Go.Oper.mk (some 113) (Go.Op.move (Go.Operand.tmp 20)) 3 _ #[] none)) (v := ?_) rfl (by kernel_rfl) (by kernel_rfl) (by kernel_rfl) (fun _ _ _ h => h) (Or.inl ⟨by rfl, ?_⟩) hHeld ?_
            rotate_left
            · intro w hSw; (try dsimp only at hSw); go_simp; (try with_reducible rfl)
            simp only [Act.put, List.setIfInBounds_toArray, List.set_cons_zero, List.set_cons_succ]
            refine wpAnyH_take (i := 6) (oi := (Go.Oper.mk (some 114) (Go.Op.indexAddr 22 (Go.Operand.tmp 112) (Go.Operand.tmp 113)) 0 _ #[Go.Edge.mk 4 Go.Ground.data, Go.Edge.mk 5 Go.Ground.data] none)) (v := ?_) rfl (by kernel_rfl) (by kernel_rfl) (by kernel_rfl) (fun _ _ _ h => h) (Or.inl ⟨by rfl, ?_⟩) hHeld ?_
            rotate_left
            · intro w hSw; (try dsimp only at hSw); go_simp; (try with_reducible rfl)
            simp only [Act.put, List.setIfInBounds_toArray, List.set_cons_zero, List.set_cons_succ]
            refine wpAnyH_take (i := 7) (oi := (Go.Oper.mk (some 115) (Go.Op.load 24 (Go.Operand.tmp 114)) 24 _ #[Go.Edge.mk 6 Go.Ground.data] none)) (v := ?_) rfl (by kernel_rfl) (by kernel_rfl) (by kernel_rfl) (fun _ _ _ h => h) (Or.inl ⟨by rfl, ?_⟩) hHeld ?_
            rotate_left
            · intro w hSw; (try dsimp only at hSw); go_simp; (try with_reducible rfl)
            simp only [Act.put, List.setIfInBounds_toArray, List.set_cons_zero, List.set_cons_succ]
            refine wpAnyH_ready (rs := [8]) (by kernel_rfl) (by simp) ?_
            refine AllReadyH.cons (o := (Go.Oper.mk (some 116) (Go.Op.call (Go.Call.mk (Go.Callee.value (Go.Operand.func 18)) #[Go.Operand.tmp 111, Go.Operand.tmp 115] #[24, 24])) 4 _ #[Go.Edge.mk 3 Go.Ground.data, Go.Edge.mk 7 Go.Ground.data] none)) rfl (fun K hK => ?_) AllReadyH.nil
            go_simp
            (with_reducible refine (HSm.out _ _ _ _ _ (hlk.out.later ?_) (hmk.out.later ?_)).mono ?_); (first | assumption | exact hHeld.1 | exact hHeld.1.drew); (first | assumption | exact hHeld.1 | exact hHeld.1.drew); rintro e wx ⟨rfl, bx⟩
            go_wp2_with fail
            refine hK.out _ _ ?_ (fun hHeld => ?_)
            · refine (fun h => And.intro h (KC.out _ h)) ?_; first | assumption | exact Below.refl _ _ | exact (Below.refl _ _).drew | exact hHeld.1.trans (bx.mono hHeld.1.size) | exact hHeld.1.trans ((bx.mono hHeld.1.size).drew) | exact Below.drew ‹_›
            clear hK K
            (try simp only [Act.put, List.setIfInBounds_toArray, List.set_cons_zero, List.set_cons_succ])
            refine wpAnyH_take (i := 9) (oi := (Go.Oper.mk (some 117) (Go.Op.unOp Go.UnOp.not 4 (Go.Operand.tmp 116)) 4 _ #[Go.Edge.mk 8 Go.Ground.data] none)) (v := ?_) rfl (by kernel_rfl) (by kernel_rfl) (by kernel_rfl) (fun _ _ _ h => h) (Or.inl ⟨by rfl, ?_⟩) hHeld ?_
            rotate_left
            · intro w hSw; (try dsimp only at hSw); go_simp; (try with_reducible rfl)
            simp only [Act.put, List.setIfInBounds_toArray, List.set_cons_zero, List.set_cons_succ]
            refine wpAnyH_done (by kernel_rfl) ?_ _
            go_wp2
            go_roundw
            case rel => exact ⟨j + 1, by omega, by omega, by go_num, hb.out.trans (hHeld.1.mono hb.out.size)⟩
            case measure => simp [intOf]; omega
          · have hnlt : ¬ (j : Int) < (L.length : Int) := by omega
            have HX1 := Lib.hid (J9.out.later (B13.out.trans (hb.out.mono B13.out.size)))
            have HX2 := Lib.hid (G9.out.later (B13.out.trans (hb.out.mono B13.out.size)))
            have HL1 := Lib.hid (M9.out.later (B13.out.trans (hb.out.mono B13.out.size)))
            have HL2 := Lib.hid (L9.out.later (B13.out.trans (hb.out.mono B13.out.size)))
            have HB9 := Lib.hid (B9.out.trans ((B13.out.trans (hb.out.mono B13.out.size)).mono B9.out.size))
            obtain ⟨t0, t1, t2, t3⟩ := HX1.out.cells
            obtain ⟨y0, y1, y2, y3⟩ := HX2.out.cells
            go_wp2_with fail
            ((with_reducible refine (HS.out _ _ _ _ _ HL1.out HL2.out).mono ?_); rintro e w15 ⟨rfl, b15⟩)
            have B15 := Lib.hid (HB9.out.trans (b15.mono HB9.out.size))
            clear b15 t0 t1 t2 t3 y0 y1 y2 y3
            go_wp2_with fail
            ((with_reducible refine (HA.out _ (HE.out.kept B15.out)).mono ?_); rintro e w16 ⟨rfl, b16⟩)
            go_wp2
            go_ret
            exact ⟨rfl, B15.out.trans (b16.mono B15.out.size)⟩
      · have hpos0 : ¬ (0 : Int) < (L.length : Int) := by omega
        have H13 := Lib.hid (show HalfO wr (fun b => w9.heap.size + 2 ≤ b ∧ b < w11.heap.size) (.slice al L.length cl) L 1 from by
          rcases hH.out with h | ⟨g, cap, ps, Fs, h1, h2, h3, ⟨⟨xs, h4, h41⟩, h42⟩, h5⟩
          · exact .inl h
          · exact .inr ⟨g, cap, ps, Fs, h1, h2, h3, ⟨⟨xs, h4, fun i hi => h41 i (by omega)⟩, fun i p hi hp => h42 i p (by omega) hp⟩, h5⟩)
        have F13 := Lib.hid hF.out
        have B13 := Lib.hid hB.out
        obtain ⟨wv, rfl⟩ : ∃ wv, wv = wr := ⟨_, rfl⟩
        go_wp2_with fail
        go_loopw [20] (fun i wr => ∃ (j : Nat), 1 ≤ j ∧ (j ≤ L.length ∨ j = 1) ∧ i = .int .i64 j ∧ Hid (Below wv.heap.size wv wr)) (fun i _ => L.length - (intOf i).toNat)
        case atStart => exact ⟨1, Nat.le_refl _, .inr rfl, rfl, Below.refl _ _⟩
        case round =>
          obtain ⟨j, hj1, hj2, rfl, hb⟩ := hrel
          by_cases hlt : j < L.length
          · obtain ⟨g, r2, lv2, Fs, hal, hFg, hr2, hok2, k0, k1, k2, k3, hel, hsub, -⟩ := H13.out.at hj1 hlt
            first | (subst hal) | (obtain rfl : g = g0 := by simpa using hal.symm)
            obtain ⟨lv3, m0, m1, m2, m3, m4⟩ := F13.out.at hlt hr2
            have hbl := hb.out.size
            have hlk := Lib.hid ((hel.lis).kept hb.out.size fun b _ h => hb.out.block b h)
            have hmk := Lib.hid (m4.kept hb.out.size fun b _ h => hb.out.block b h)
            obtain ⟨a2, c2, rfl⟩ := hel.shape
            obtain ⟨a3, c3, rfl⟩ := m4.shape
            have hf13 := F13.out.lt
            have hg13 : g < wv.heap.size := by have := hFg.2; omega
            have q0 := (hb.out.cell (p := ⟨g, j * 4, none⟩) hg13).trans k0
            have q1 := (hb.out.cell (p := ⟨g, j * 4 + 1, none⟩) hg13).trans k1
            have q2 := (hb.out.cell (p := ⟨g, j * 4 + 2, none⟩) hg13).trans k2
            have q3 := (hb.out.cell (p := ⟨g, j * 4 + 3, none⟩) hg13).trans k3
            have p0 := (hb.out.cell (p := ⟨w11.heap.size, j * 4, none⟩) hf13).trans m0
            have p1 := (hb.out.cell (p := ⟨w11.heap.size, j * 4 + 1, none⟩) hf13).trans m1
            have p2 := (hb.out.cell (p := ⟨w11.heap.size, j * 4 + 2, none⟩) hf13).trans m2
            have p3 := (hb.out.cell (p := ⟨w11.heap.size, j * 4 + 3, none⟩) hf13).trans m3
            have hltI : (j : Int) < (L.length : Int) := by omega
            have hj0 : (0 : Int) ≤ (j : Int) := by omega
            have HSm := Lib.hid (fun (lv lv' : Value) (F F' : Nat → Prop) (W : World) (h : LIs F W lv r2.l) (h' : LIs F' W lv' r2.l) => same_any r2 lv lv' F F' W hok2 h h')
            have hcell : ∀ {p : Addr} {v : Value}, p.block < wr.heap.size → wr.cell? p = some v → ∀ W, Below wr.heap.size wr W → W.cell? p = some v := fun hp h W hW => (hW.cell hp).trans h
            have hgr : g < wr.heap.size := by omega
            have hfr : w11.heap.size < wr.heap.size := by omega
            have KC := Lib.hid (show ∀ W, Below wr.heap.size wr W → W.cell? ⟨g, j * 4, none⟩ = some (.int .i64 r2.k) ∧ W.cell? ⟨g, j * 4 + 1, none⟩ = some (.string (str r2.t)) ∧ W.cell? ⟨g, j * 4 + 2, none⟩ = some (.int .i64 r2.n) ∧ W.cell? ⟨g, j * 4 + 3, none⟩ = some (.slice a2 r2.l.length c2) ∧ W.cell? ⟨w11.heap.size, j * 4, none⟩ = some (.int .i64 r2.k) ∧ W.cell? ⟨w11.heap.size, j * 4 + 1, none⟩ = some (.string (str r2.t)) ∧ W.cell? ⟨w11.heap.size, j * 4 + 2, none⟩ = some (.int .i64 r2.n) ∧ W.cell? ⟨w11.heap.size, j * 4 + 3, none⟩ = some (.slice a3 r2.l.length c3) from
              fun W h => ⟨hcell hgr q0 W h, hcell hgr q1 W h, hcell hgr q2 W h, hcell hgr q3 W h, hcell hfr p0 W h, hcell hfr p1 W h, hcell hfr p2 W h, hcell hfr p3 W h⟩)
            clear k0 k1 k2 k3 m0 m1 m2 m3 m4 hel hsub hFg hr2 hok2 hcell q0 q1 q2 q3 p0 p1 p2 p3
            go_wp2_with fail
            refine wp_region_held_drew (S := (fun W => Below wr.heap.size wr W ∧ W.cell? ⟨g, j * 4, none⟩ = some (.int .i64 r2.k) ∧ W.cell? ⟨g, j * 4 + 1, none⟩ = some (.string (str r2.t)) ∧ W.cell? ⟨g, j * 4 + 2, none⟩ = some (.int .i64 r2.n) ∧ W.cell? ⟨g, j * 4 + 3, none⟩ = some (.slice a2 r2.l.length c2) ∧ W.cell? ⟨w11.heap.size, j * 4, none⟩ = some (.int .i64 r2.k) ∧ W.cell? ⟨w11.heap.size, j * 4 + 1, none⟩ = some (.string (str r2.t)) ∧ W.cell? ⟨w11.heap.size, j * 4 + 2, none⟩ = some (.int .i64 r2.n) ∧ W.cell? ⟨w11.heap.size, j * 4 + 3, none⟩ = some (.slice a3 r2.l.length c3))) (by kernel_rfl) ?_ (fun hHeld => ?_)
            · refine (fun h => And.intro h (KC.out _ h)) ?_; first | assumption | exact Below.refl _ _ | exact (Below.refl _ _).drew | exact hHeld.1.trans (bx.mono hHeld.1.size) | exact hHeld.1.trans ((bx.mono hHeld.1.size).drew) | exact Below.drew ‹_›
            refine wpAnyH_take (i := 0) (oi := (Go.Oper.mk (some 108) (Go.Op.move (Go.Operand.tmp 16)) 22 _ #[] none)) (v := ?_) rfl (by kernel_rfl) (by kernel_rfl) (by kernel_rfl) (fun _ _ _ h => h) (Or.inl ⟨by rfl, ?_⟩) hHeld ?_
            rotate_left
            · intro w hSw; (try dsimp only at hSw); go_simp; (try with_reducible rfl)
            simp only [Act.put, List.setIfInBounds_toArray, List.set_cons_zero, List.set_cons_succ]
            refine wpAnyH_take (i := 1) (oi := (Go.Oper.mk (some 109) (Go.Op.move (Go.Operand.tmp 20)) 3 _ #[] none)) (v := ?_) rfl (by kernel_rfl) (by kernel_rfl) (by kernel_rfl) (fun _ _ _ h => h) (Or.inl ⟨by rfl, ?_⟩) hHeld ?_
            rotate_left
            · intro w hSw; (try dsimp only at hSw); go_simp; (try with_reducible rfl)
            simp only [Act.put, List.setIfInBounds_toArray, List.set_cons_zero, List.set_cons_succ]
            refine wpAnyH_take (i := 2) (oi := (Go.Oper.mk (some 110) (Go.Op.indexAddr 22 (Go.Operand.tmp 108) (Go.Operand.tmp 109)) 0 _ #[Go.Edge.mk 0 Go.Ground.data, Go.Edge.mk 1 Go.Ground.data] none)) (v := ?_) rfl (by kernel_rfl) (by kernel_rfl) (by kernel_rfl) (fun _ _ _ h => h) (Or.inl ⟨by rfl, ?_⟩) hHeld ?_
            rotate_left
            · intro w hSw; (try dsimp only at hSw); go_simp; (try with_reducible rfl)
            simp only [Act.put, List.setIfInBounds_toArray, List.set_cons_zero, List.set_cons_succ]
            refine wpAnyH_take (i := 3) (oi := (Go.Oper.mk (some 111) (Go.Op.load 24 (Go.Operand.tmp 110)) 24 _ #[Go.Edge.mk 2 Go.Ground.data] none)) (v := ?_) rfl (by kernel_rfl) (by kernel_rfl) (by kernel_rfl) (fun _ _ _ h => h) (Or.inl ⟨by rfl, ?_⟩) hHeld ?_
            rotate_left
            · intro w hSw; (try dsimp only at hSw); go_simp; (try with_reducible rfl)
            simp only [Act.put, List.setIfInBounds_toArray, List.set_cons_zero, List.set_cons_succ]
            refine wpAnyH_take (i := 4) (oi := (Go.Oper.mk (some 112) (Go.Op.move (Go.Operand.tmp 18)) 22 _ #[] none)) (v := ?_) rfl (by kernel_rfl) (by kernel_rfl) (by kernel_rfl) (fun _ _ _ h => h) (Or.inl ⟨by rfl, ?_⟩) hHeld ?_
            rotate_left
            · intro w hSw; (try dsimp only at hSw); go_simp; (try with_reducible rfl)
            simp only [Act.put, List.setIfInBounds_toArray, List.set_cons_zero, List.set_cons_succ]
            refine wpAnyH_take (i := 5) (oi := (Go.Oper.mk (some 113) (Go.Op.move (Go.Operand.tmp 20)) 3 _ #[] none)) (v := ?_) rfl (by kernel_rfl) (by kernel_rfl) (by kernel_rfl) (fun _ _ _ h => h) (Or.inl ⟨by rfl, ?_⟩) hHeld ?_
            rotate_left
            · intro w hSw; (try dsimp only at hSw); go_simp; (try with_reducible rfl)
            simp only [Act.put, List.setIfInBounds_toArray, List.set_cons_zero, List.set_cons_succ]
            refine wpAnyH_take (i := 6) (oi := (Go.Oper.mk (some 114) (Go.Op.indexAddr 22 (Go.Operand.tmp 112) (Go.Operand.tmp 113)) 0 _ #[Go.Edge.mk 4 Go.Ground.data, Go.Edge.mk 5 Go.Ground.data] none)) (v := ?_) rfl (by kernel_rfl) (by kernel_rfl) (by kernel_rfl) (fun _ _ _ h => h) (Or.inl ⟨by rfl, ?_⟩) hHeld ?_
            rotate_left
            · intro w hSw; (try dsimp only at hSw); go_simp; (try with_reducible rfl)
            simp only [Act.put, List.setIfInBounds_toArray, List.set_cons_zero, List.set_cons_succ]
            refine wpAnyH_take (i := 7) (oi := (Go.Oper.mk (some 115) (Go.Op.load 24 (Go.Operand.tmp 114)) 24 _ #[Go.Edge.mk 6 Go.Ground.data] none)) (v := ?_) rfl (by kernel_rfl) (by kernel_rfl) (by kernel_rfl) (fun _ _ _ h => h) (Or.inl ⟨by rfl, ?_⟩) hHeld ?_
            rotate_left
            · intro w hSw; (try dsimp only at hSw); go_simp; (try with_reducible rfl)
            simp only [Act.put, List.setIfInBounds_toArray, List.set_cons_zero, List.set_cons_succ]
            refine wpAnyH_ready (rs := [8]) (by kernel_rfl) (by simp) ?_
            refine AllReadyH.cons (o := (Go.Oper.mk (some 116) (Go.Op.call (Go.Call.mk (Go.Callee.value (Go.Operand.func 18)) #[Go.Operand.tmp 111, Go.Operand.tmp 115] #[24, 24])) 4 _ #[Go.Edge.mk 3 Go.Ground.data, Go.Edge.mk 7 Go.Ground.data] none)) rfl (fun K hK => ?_) AllReadyH.nil
            go_simp
            (with_reducible refine (HSm.out _ _ _ _ _ (hlk.out.later ?_) (hmk.out.later ?_)).mono ?_); (first | assumption | exact hHeld.1 | exact hHeld.1.drew); (first | assumption | exact hHeld.1 | exact hHeld.1.drew); rintro e wx ⟨rfl, bx⟩
            go_wp2_with fail
            refine hK.out _ _ ?_ (fun hHeld => ?_)
            · refine (fun h => And.intro h (KC.out _ h)) ?_; first | assumption | exact Below.refl _ _ | exact (Below.refl _ _).drew | exact hHeld.1.trans (bx.mono hHeld.1.size) | exact hHeld.1.trans ((bx.mono hHeld.1.size).drew) | exact Below.drew ‹_›
            clear hK K
            (try simp only [Act.put, List.setIfInBounds_toArray, List.set_cons_zero, List.set_cons_succ])
            refine wpAnyH_take (i := 9) (oi := (Go.Oper.mk (some 117) (Go.Op.unOp Go.UnOp.not 4 (Go.Operand.tmp 116)) 4 _ #[Go.Edge.mk 8 Go.Ground.data] none)) (v := ?_) rfl (by kernel_rfl) (by kernel_rfl) (by kernel_rfl) (fun _ _ _ h => h) (Or.inl ⟨by rfl, ?_⟩) hHeld ?_
            rotate_left
            · intro w hSw; (try dsimp only at hSw); go_simp; (try with_reducible rfl)
            simp only [Act.put, List.setIfInBounds_toArray, List.set_cons_zero, List.set_cons_succ]
            refine wpAnyH_done (by kernel_rfl) ?_ _
            go_wp2
            go_roundw
            case rel => exact ⟨j + 1, by omega, by omega, by go_num, hb.out.trans (hHeld.1.mono hb.out.size)⟩
            case measure => simp [intOf]; omega
          · have hnlt : ¬ (j : Int) < (L.length : Int) := by omega
            have HX1 := Lib.hid (J9.out.later (B13.out.trans (hb.out.mono B13.out.size)))
            have HX2 := Lib.hid (G9.out.later (B13.out.trans (hb.out.mono B13.out.size)))
            have HL1 := Lib.hid (M9.out.later (B13.out.trans (hb.out.mono B13.out.size)))
            have HL2 := Lib.hid (L9.out.later (B13.out.trans (hb.out.mono B13.out.size)))
            have HB9 := Lib.hid (B9.out.trans ((B13.out.trans (hb.out.mono B13.out.size)).mono B9.out.size))
            obtain ⟨t0, t1, t2, t3⟩ := HX1.out.cells
            obtain ⟨y0, y1, y2, y3⟩ := HX2.out.cells
            go_wp2_with fail
            ((with_reducible refine (HS.out _ _ _ _ _ HL1.out HL2.out).mono ?_); rintro e w15 ⟨rfl, b15⟩)
            have B15 := Lib.hid (HB9.out.trans (b15.mono HB9.out.size))
            clear b15 t0 t1 t2 t3 y0 y1 y2 y3
            go_wp2_with fail
            ((with_reducible refine (HA.out _ (HE.out.kept B15.out)).mono ?_); rintro e w16 ⟨rfl, b16⟩)
            go_wp2
            go_ret
            exact ⟨rfl, B15.out.trans (b16.mono B15.out.size)⟩
end Go.Proofs.YtpngmbdchceikaaDoor
