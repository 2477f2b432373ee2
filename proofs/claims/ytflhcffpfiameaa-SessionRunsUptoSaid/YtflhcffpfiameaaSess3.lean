/- The walks of a session's methods: watched keys. -/
import Derived.Test.YtflhcffpfiameaaSess2
import Derived.Test.YtflhcffpfiameaaStrs
namespace Go.Proofs.Ytflhcffpfiameaa
open Go.ChangeShapes Go.WideShapes Go.ChangeAt Go.RowKit Go.Maps
set_option linter.unusedVariables false

theorem strKeyed : Keyed Try.prog 9 := string_keyed Try.underlying9
abbrev ownsK (w : World) (b n : Nat) (D : DataW Unit) : Prop := w.ownsMap Try.prog 9 (plainElem Try.prog 3) b n D
set_option maxHeartbeats 400000 in
set_option maxRecDepth 100000 in
theorem mclone_any (b n : Nat) (D : DataW Unit) (w : World) (hown : ownsK w b n D) :
    Calls Try.prog 31 #[.map (some b)] w fun e w' => e = .returned (.map (some w.heap.size)) ∧ ownsK w' w.heap.size n D ∧ Below w.heap.size w w' := by
  obtain ⟨es, clock, hb, F, hs, hD⟩ := hown
  have hq := fun w => run_eql_map_nil_sl (P := Try.prog) w 56 _ _ (some b) Try.underlying56
  have HD := Lib.hid hD
  have HF := Lib.hid F
  clear hD F
  go_enter Try.func31, Try.ntmps31
  go_wp2
  rw [run_callFunc_extern Try.func48 (by kernel_rfl) (by kernel_rfl) (by kernel_rfl) (e := Extern.MapsClone.clone) (by kernel_rfl), run_maps_clone_sl w 56 hb]
  simp only [Result.andThen]
  rw [Oper.upon_value]
  go_wp2
  rw [run_typeAssert_map_sl _ 56 20 _ _ _ Try.underlying56]
  simp only [Result.andThen]
  rw [Oper.upon_value]
  go_wp2
  go_ret
  exact ⟨rfl, ⟨es, clock, heap_alloc_new w _, HF.out, hs, HD.out⟩, (Below.refl _ w).alloc (Nat.le_refl _) _⟩

/-- The keys with these texts. -/
def addKs (ks : List (List UInt8)) (bs : List ByteArray) : List (List UInt8) := bs.foldl (fun l b => addB l b.data.toList) ks
theorem addKs_snoc (ks : List (List UInt8)) (bs : List ByteArray) (b : ByteArray) : addKs ks (bs ++ [b]) = addB (addKs ks bs) b.data.toList := by simp [addKs, List.foldl_append]
theorem addKs_nodup {ks : List (List UInt8)} (h : ks.Nodup) (bs : List ByteArray) : (addKs ks bs).Nodup := by
  induction bs generalizing ks with
  | nil => exact h
  | cons b l ih => exact ih (addB_nodup h _)
theorem addKs_length (ks : List (List UInt8)) (bs : List ByteArray) : (addKs ks bs).length ≤ ks.length + bs.length := by
  induction bs generalizing ks with
  | nil => exact Nat.le_refl _
  | cons b l ih => have := addB_length ks b.data.toList; have := ih (addB ks b.data.toList); simp only [addKs, List.foldl_cons, List.length_cons] at *; omega
theorem mem_addKs {ks : List (List UInt8)} {bs : List ByteArray} {x : List UInt8} : x ∈ addKs ks bs ↔ x ∈ ks ∨ ∃ b ∈ bs, x = b.data.toList := by
  induction bs generalizing ks with
  | nil => simp [addKs]
  | cons b l ih =>
    have : addKs ks (b :: l) = addKs (addB ks b.data.toList) l := rfl
    rw [this, ih, mem_addB]
    simp only [List.mem_cons, exists_eq_or_imp]
    constructor
    · rintro ((h | h) | h)
      · exact .inr (.inl h)
      · exact .inl h
      · exact .inr (.inr h)
    · rintro (h | h | h)
      · exact .inl (.inr h)
      · exact .inl (.inl h)
      · exact .inr h
/-- WATCH. -/
def SessM.watch (S : SessM) (bs : List ByteArray) : SessM := if S.multi = true ∨ 1024 < (addKs S.keys bs).length then S else { S with keys := addKs S.keys bs }
def SessM.watchR (S : SessM) (bs : List ByteArray) : Value := if S.multi = true then replyV 2 ⟨#[69, 82, 82, 32, 87, 65, 84, 67, 72, 32, 119, 105, 116, 104, 105, 110, 32, 77, 85, 76, 84, 73]⟩ else if 1024 < (addKs S.keys bs).length then replyV 2 ⟨#[69, 82, 82, 32, 116, 111, 111, 32, 109, 97, 110, 121, 32, 119, 97, 116, 99, 104, 101, 100, 32, 107, 101, 121, 115]⟩ else replyV 1 ⟨#[79, 75]⟩

theorem take_one {α : Type} {l : List α} {k : Nat} {x : α} (h : l[k]? = some x) : l.take (k + 1) = l.take k ++ [x] := by
  obtain ⟨h1, h2⟩ := List.getElem?_eq_some_iff.1 h
  rw [List.take_succ_eq_append_getElem h1, h2]
/-- What the loop has put in. -/
def Put (w wr : World) (g n : Nat) (ks : List (List UInt8)) : Prop := ∃ D, ownsK wr g n D ∧ KeysAre D ks ∧ Below w.heap.size w wr ∧ g < wr.heap.size
theorem Put.step {w wr w' : World} {g n : Nat} {ks : List (List UInt8)} (hg : w.heap.size ≤ g) (hb : Below w.heap.size w wr) {D : DataW Unit} (hk : KeysAre D ks) {x : List UInt8} (ho : ownsK w' g (n + 1) (D.put (litB x) (.lit (.int .i64 1)))) (hgr : wr.grownBy w' (some g)) (hl : g < wr.heap.size) : Put w w' g (n + 1) (addB ks x) :=
  ⟨_, ho, hk.put x, hb.grown hgr hb.size (fun k e => by cases e; exact hg), Nat.lt_of_lt_of_le hl hgr.size⟩

set_option maxHeartbeats 400000 in
theorem watch_multi {w : World} {b : Nat} {F : Nat → Prop} {S : SessM} (h : Sess w b F S) (v : Value) (hm : S.multi = true) :
    Calls Try.prog 11 #[.pointer (some ⟨b, 0, none⟩), v] w fun e w' => e = .returned (replyV 2 ⟨#[69, 82, 82, 32, 87, 65, 84, 67, 72, 32, 119, 105, 116, 104, 105, 110, 32, 77, 85, 76, 84, 73]⟩) ∧ Below w.heap.size w w' := by
  obtain ⟨qv, bm, D, h⟩ := h
  obtain ⟨c0, c1, c2, c3, c4, c5⟩ := h.cells
  have hlt := h.lt b h.own
  have H := Lib.hid h
  clear h
  go_enter Try.func11, Try.ntmps11
  go_wp2_with fail
  ((with_reducible refine (fault_any _ _).mono ?_); rintro e w1 ⟨rfl, b1⟩)
  obtain ⟨hc, hf⟩ := bcell b1
  have hz := b1.size
  simp at hz
  go_wp2
  refine bodyPost_ret (v := replyV 2 ⟨#[69, 82, 82, 32, 87, 65, 84, 67, 72, 32, 119, 105, 116, 104, 105, 110, 32, 77, 85, 76, 84, 73]⟩) (reply_end rfl _ w.heap.size rfl Try.underlying31 (by kernel_rfl) (box_there (by simp) b1) rfl _ _ _ _) rfl ⟨rfl, ?_⟩
  exact ((((Wr.refl (fun _ => False) w).alloc _).trans (Wr.of_below b1) (Grew.refl _ _)).reply (Nat.le_refl _) _ _ _ _).below (fun k hk => hk.elim) (Nat.le_refl _)

/-- What WATCH leaves where MULTI was not said. -/
def WatchEnd (S : SessM) (bs : List ByteArray) (b : Nat) (F : Nat → Prop) (w : World) (e : Ending) (w' : World) : Prop :=
  e = .returned (S.watchR bs) ∧ ∃ F', Sess w' b F' (S.watch bs) ∧ Grew w F F' ∧ Wr F w w'
theorem SessAt.watched {w w' : World} {b : Nat} {F : Nat → Prop} {S : SessM} {qv : Value} {bm : Nat} {D D' : DataW Unit} (h : SessAt w b F S qv bm D) {g n : Nat} {ks : List (List UInt8)} (ho : ownsK w' g n D') (hk : KeysAre D' ks)
    (hw : Below w.heap.size w w') (hfew : ks.length ≤ 1024) (hlens : ∀ k ∈ ks, k.length ≤ maxLen) (hnd : ks.Nodup) : SessAt (w'.setCell ⟨b, 5, none⟩ (.map (some g))) b (fun k => F k ∨ k = g) { S with keys := ks } qv g D' := by
  have h2 := h.below hw
  have hg := ho.lt
  have hgb : g ≠ b := fun e => ownsMap_notCells ho h2.block e.symm
  exact {
    lt := fun k hk => by
      rw [heap_setCell_size]
      rcases hk with hk | rfl
      · exact h2.lt k hk
      · exact hg
    own := .inl h.own
    places := h.places
    room := h.room
    few := hfew
    lens := hlens
    nodup := hnd
    block := heap_setCell_same h2.block
    ownM := .inr rfl
    map := by
      obtain ⟨es, clock, e, r⟩ := ownsMap_tight ho hk
      exact ⟨es, clock, (Below.heap_setCell _ _ _ _ hgb).trans e, r⟩
    keys := hk
    rows := (h2.rows.mono (fun k hk => Or.inl hk)).kept_by fun k cur e he hk => by
      refine Below.heap_setCell _ _ _ _ ?_
      rintro rfl
      rw [h2.block] at hk
      simp only [Option.some.injEq, Obj.cells.injEq] at hk
      rcases he with he | he <;> (rw [he] at hk; simp at hk) }
theorem one_wf : (Lit.int .i64 1).wf = true := by decide
theorem addKs_lens {ks : List (List UInt8)} {bs : List ByteArray} (hl : ∀ k ∈ ks, k.length ≤ maxLen) (hbs : ∀ x ∈ bs, x.size ≤ maxLen) : ∀ k ∈ addKs ks bs, k.length ≤ maxLen := by
  intro k hk
  rcases mem_addKs.1 hk with h | ⟨x, hx, rfl⟩
  · exact hl k h
  · rw [len_toList]; exact hbs x hx
/-- The world with the reply's box. -/
def boxed (w : World) : World := w.alloc (.cells #[.int .i64 0, .string ⟨#[]⟩, .int .i64 0, .slice none 0 0] 31)
theorem boxed_size (w : World) : (boxed w).heap.size = w.heap.size + 1 := by simp [boxed]
theorem boxed_below (w : World) : Below w.heap.size w (boxed w) := (Below.refl _ _).alloc (Nat.le_refl _) _
theorem boxed_at {w w1 : World} (h : Below (boxed w).heap.size (boxed w) w1) : w1.heap[w.heap.size]? = some (.cells #[.int .i64 0, .string ⟨#[]⟩, .int .i64 0, .slice none 0 0] 31 (0, 0)) := box_there rfl h
set_option maxHeartbeats 1600000 in
set_option maxRecDepth 100000 in
theorem watch_go {w : World} {b : Nat} {F : Nat → Prop} {S : SessM} (h : Sess w b F S) (v : Value) (bs : List ByteArray) (hs : SRow w v bs) (hbs : ∀ x ∈ bs, x.size ≤ maxLen) (hlen : bs.length ≤ 8796093022208) (hm : S.multi = false) :
    Calls Try.prog 11 #[.pointer (some ⟨b, 0, none⟩), v] w fun e w' => WatchEnd S bs b F w e w' := by
  obtain ⟨qv, bm, D, h⟩ := h
  obtain ⟨c0, c1, c2, c3, c4, c5⟩ := h.cells
  have f5 := h.free 5
  have hlt := h.lt b h.own
  have hmap := h.map.alloc (.cells #[.int .i64 0, .string ⟨#[]⟩, .int .i64 0, .slice none 0 0] 31)
  have hfew := h.few
  have H := Lib.hid h
  clear h
  have HM := Lib.hid hmap
  clear hmap
  obtain ⟨ao, cp, rfl, hs2⟩ := hs
  have HS := Lib.hid hs2
  clear hs2
  go_enter Try.func11, Try.ntmps11
  go_wp2_with fail
  ((with_reducible refine (mclone_any _ _ _ _ HM.out).mono ?_); rintro e w1 ⟨rfl, hown, b1⟩)
  have hP : Put (boxed w) w1 (w.heap.size + 1) S.keys.length S.keys := by
    rw [show (w.alloc (.cells #[.int .i64 0, .string ⟨#[]⟩, .int .i64 0, .slice none 0 0] 31)).heap.size = w.heap.size + 1 from boxed_size w] at hown
    exact ⟨D, hown, H.out.keys, b1, hown.lt⟩
  have HP := Lib.hid hP
  clear hP hown b1
  go_wp2_with fail
  go_loopw [25] (fun i wr => ∃ k : Nat, k ≤ bs.length ∧ i = .int .i64 k ∧ Hid (Put (boxed w) wr (w.heap.size + 1) (S.keys.length + k) (addKs S.keys (bs.take k)))) (fun i _ => bs.length - (intOf i).toNat)
  case atStart => exact ⟨0, Nat.zero_le _, rfl, HP.out⟩
  case round =>
    obtain ⟨k, hk, rfl, hp⟩ := hrel
    obtain ⟨Dk, hown, hka, hbel, hgl⟩ := hp.out
    have HK := Lib.hid hka
    have HB := Lib.hid hbel
    have HW := Lib.hid ((boxed_below w).trans (hbel.mono (by rw [boxed_size]; omega)))
    clear hka hbel hp
    by_cases hlt2 : k < bs.length
    · obtain ⟨x, hx⟩ : ∃ x, bs[k]? = some x := ⟨bs[k], List.getElem?_eq_getElem hlt2⟩
      rcases HS.out with rfl | ⟨g, off, rfl, hg, hcell⟩
      · simp at hlt2
      have hxs := hbs x (List.mem_of_getElem? hx)
      have hc1 : wr.cell? ⟨g, off + k, none⟩ = some (.string x) := (HW.out.cell (by exact hg)).trans (hcell k x hx)
      have HX := Lib.hid hx
      clear hcell hx
      go_wp2_with (at_mapUpdate; refine wpList_mapUpdate_own _ rfl _ _ _ 56 rfl 9 3 strKeyed Try.underlying56 _ (w.heap.size + 1) (S.keys.length + k) Dk rfl hown (by unfold maxLen; omega) _ _ _ rfl rfl (WideMaps.keyOf_string_mk Try.underlying9 hxs) _ [] (plainElem_int Try.underlying3 one_wf) ?_; intro w2 hown2 hgrow2)
      go_roundw
      case rel => exact ⟨k + 1, by omega, by go_num, by rw [take_one HX.out, addKs_snoc]; exact Put.step (by rw [boxed_size]; omega) HB.out HK.out hown2 hgrow2 hgl⟩
      case measure => simp [intOf]; omega
    · obtain rfl : bs.length = k := by omega
      rw [List.take_length] at HK
      have hsz := HK.out.size
      have hbw : wr.cell? ⟨b, 5, none⟩ = some (.map (some bm)) := (HW.out.cell (p := ⟨b, 5, none⟩) hlt).trans c5
      have hfw : wr.frozen? ⟨b, 5, none⟩ = false := (HW.out.frozen (p := ⟨b, 5, none⟩) hlt).trans f5
      have hn : ¬ F w.heap.size := fun hk => Nat.lt_irrefl _ (H.out.lt _ hk)
      have hln : ¬ F (w.heap.size + 1) := fun hk => by have := H.out.lt _ hk; omega
      have hblt : b < wr.heap.size := Nat.lt_of_lt_of_le hlt HW.out.size
      have hwlt : w.heap.size < wr.heap.size := by omega
      by_cases hmany : 1024 < (addKs S.keys bs).length
      · have hd : decide ((1024 : Int) < (Maps.size Dk : Int)) = true := by rw [decide_eq_true_iff, hsz]; omega
        have Hsz := Lib.hid hsz
        clear hsz
        go_wp2_with (at_len; refine wpList_len_own _ rfl _ 56 rfl 9 3 Try.underlying56 _ (w.heap.size + 1) _ Dk rfl hown ?_)
        ((with_reducible refine (fault_any _ _).mono ?_); rintro e w3 ⟨rfl, b3⟩)
        have B3 := Lib.hid (HB.out.trans (b3.mono HB.out.size))
        obtain ⟨hc, hf⟩ := bcell b3
        have hz := b3.size
        have hbx := boxed_at B3.out
        have k0 : w3.cell? ⟨w.heap.size, 0, none⟩ = some (.int .i64 0) := by simp [World.cell?, hbx]
        have k1 : w3.cell? ⟨w.heap.size, 1, none⟩ = some (.string ⟨#[]⟩) := by simp [World.cell?, hbx]
        have k2 : w3.cell? ⟨w.heap.size, 2, none⟩ = some (.int .i64 0) := by simp [World.cell?, hbx]
        have k3 : w3.cell? ⟨w.heap.size, 3, none⟩ = some (.slice none 0 0) := by simp [World.cell?, hbx]
        have z0 : ∀ i, w3.frozen? ⟨w.heap.size, i, none⟩ = false := fun i => by simp only [World.frozen?, hbx]; simp
        have HBX := Lib.hid hbx
        clear hc hf hbx
        go_wp2
        refine bodyPost_ret (v := replyV 2 ⟨#[69, 82, 82, 32, 116, 111, 111, 32, 109, 97, 110, 121, 32, 119, 97, 116, 99, 104, 101, 100, 32, 107, 101, 121, 115]⟩) (reply_end rfl _ w.heap.size rfl Try.underlying31 (by kernel_rfl) HBX.out rfl _ _ _ _) rfl ⟨?_, F, ?_, Grew.refl _ _, ?_⟩
        · unfold SessM.watchR; rw [if_neg (by simp [hm]), if_pos hmany]
        · unfold SessM.watch; rw [if_pos (.inr hmany)]
          exact ⟨qv, bm, D, (H.out.below (HW.out.trans (b3.mono HW.out.size))).reply hn _ _ _ _⟩
        · exact (Wr.of_below (HW.out.trans (b3.mono HW.out.size))).reply (Nat.le_refl _) _ _ _ _
      · have hd : decide ((1024 : Int) < (Maps.size Dk : Int)) = false := by rw [decide_eq_false_iff_not, hsz]; omega
        have Hsz := Lib.hid hsz
        clear hsz
        go_wp2_with (at_len; refine wpList_len_own _ rfl _ 56 rfl 9 3 Try.underlying56 _ (w.heap.size + 1) _ Dk rfl hown ?_)
        ((with_reducible refine (simple_any _ _).mono ?_); rintro e w3 ⟨rfl, b3⟩)
        have hS := H.out.watched hown HK.out HW.out (by omega) (addKs_lens H.out.lens hbs) (addKs_nodup H.out.nodup bs)
        have B3 := Lib.hid b3
        have hbx : w3.heap[w.heap.size]? = some (.cells #[.int .i64 0, .string ⟨#[]⟩, .int .i64 0, .slice none 0 0] 31 (0, 0)) := by
          rw [b3.block _ (by rw [heap_setCell_size]; exact hwlt), Below.heap_setCell _ _ _ _ (by simp; omega)]
          exact boxed_at HB.out
        have k0 : w3.cell? ⟨w.heap.size, 0, none⟩ = some (.int .i64 0) := by simp [World.cell?, hbx]
        have k1 : w3.cell? ⟨w.heap.size, 1, none⟩ = some (.string ⟨#[]⟩) := by simp [World.cell?, hbx]
        have k2 : w3.cell? ⟨w.heap.size, 2, none⟩ = some (.int .i64 0) := by simp [World.cell?, hbx]
        have k3 : w3.cell? ⟨w.heap.size, 3, none⟩ = some (.slice none 0 0) := by simp [World.cell?, hbx]
        have z0 : ∀ i, w3.frozen? ⟨w.heap.size, i, none⟩ = false := fun i => by simp only [World.frozen?, hbx]; simp
        have HBX := Lib.hid hbx
        have HSS := Lib.hid hS
        clear hbx b3 hS
        go_wp2
        refine bodyPost_ret (v := replyV 1 ⟨#[79, 75]⟩) (reply_end rfl _ w.heap.size rfl Try.underlying31 (by kernel_rfl) HBX.out rfl _ _ _ _) rfl ⟨?_, (fun k => F k ∨ k = w.heap.size + 1), ?_, ?_, ?_⟩
        · unfold SessM.watchR; rw [if_neg (by simp [hm]), if_neg hmany]
        · unfold SessM.watch; rw [if_neg (by simp [hm]; omega)]
          exact ⟨qv, _, Dk, (HSS.out.below B3.out).reply (fun hk => hk.elim hn (by omega)) _ _ _ _⟩
        · exact fun k hk => hk.elim .inl (fun e => .inr (by omega))
        · exact (((Wr.of_below HW.out).setCell H.out.own _).trans (Wr.of_below B3.out) (Grew.refl _ _)).reply (Nat.le_refl _) _ _ _ _
end Go.Proofs.Ytflhcffpfiameaa
