/- The walks of a session's methods: EXEC, touched keys. -/
import Derived.Test.YtflhcffpfiameaaSess4
namespace Go.Proofs.Ytflhcffpfiameaa
open Go.ChangeShapes Go.WideShapes Go.ChangeAt Go.RowKit Go.Maps
set_option linter.unusedVariables false

/-- What EXEC comes to. -/
def SessM.execN (S : SessM) : Nat := if S.multi = false then 0 else if S.refused = true then 3 else if S.dirty = true then 2 else 1
def SessM.execS (S : SessM) : SessM := if S.multi = false then S else S.gone
def SessM.execQ (S : SessM) : List (List (List UInt8)) := if S.multi = true ∧ S.refused = false ∧ S.dirty = false then S.queue else []
def ExecEnd (S : SessM) (b : Nat) (F : Nat → Prop) (w : World) (e : Ending) (w' : World) : Prop :=
  ∃ v F', e = .returned (.tuple #[v, .int .i64 S.execN]) ∧ RowsR w' F v S.execQ ∧ Sess w' b F' S.execS ∧ Grew w F F' ∧ Wr F w w'
set_option maxHeartbeats 400000 in
theorem exec_not {w : World} {b : Nat} {F : Nat → Prop} {S : SessM} (h : Sess w b F S) (hm : S.multi = false) :
    Calls Try.prog 16 #[.pointer (some ⟨b, 0, none⟩)] w fun e w' => ExecEnd S b F w e w' := by
  have H := Lib.hid h
  clear h
  go_enter Try.func16, Try.ntmps16
  go_wp2_with fail
  ((with_reducible refine (multi_any H.out).mono ?_); rintro e w1 ⟨rfl, rfl⟩)
  go_wp2
  go_ret2
  have e : S.execN = 0 := by unfold SessM.execN; rw [if_pos hm]
  refine ⟨.slice none 0 0, F, by rw [e]; rfl, ?_, ?_, Grew.refl _ _, Wr.refl _ _⟩
  · unfold SessM.execQ; rw [if_neg (by simp [hm])]; exact RowsR.nil _ _
  · unfold SessM.execS; rw [if_pos hm]; exact H.out
set_option maxHeartbeats 1600000 in
theorem exec_go {w : World} {b : Nat} {F : Nat → Prop} {S : SessM} (h : Sess w b F S) (hm : S.multi = true) :
    Calls Try.prog 16 #[.pointer (some ⟨b, 0, none⟩)] w fun e w' => ExecEnd S b F w e w' := by
  obtain ⟨qv, bm, D, h⟩ := h
  have hlt := h.lt b h.own
  obtain ⟨ao, cp, rfl⟩ := h.shape
  obtain ⟨c0, c1, c2, c3, c4, c5⟩ := h.cells
  have H2 := Lib.hid (SessAt.sess h)
  have H := Lib.hid h
  clear h
  go_enter Try.func16, Try.ntmps16
  go_wp2_with fail
  ((with_reducible refine (multi_any H2.out).mono ?_); rintro e w1 ⟨rfl, rfl⟩)
  go_wp2_with fail
  go_region
  go_wp2_with fail
  have hz : ∃ wz, (w.alloc (.cells #[.bool true, .bool S.dirty, .bool S.refused] 57)).drew = wz ∧ Below w.heap.size w wz ∧ wz.heap.size = w.heap.size + 1 ∧ wz.heap[w.heap.size]? = some (.cells #[.bool true, .bool S.dirty, .bool S.refused] 57 (0, 0)) :=
    ⟨_, rfl, ((Below.refl _ _).alloc (Nat.le_refl _) _).drew, by simp [World.drew], heap_alloc_new w _⟩
  obtain ⟨wz, ez, bz, sz, kz⟩ := hz
  rw [ez]
  have HZ := Lib.hid (And.intro bz kz)
  have hsz := Nat.le_of_eq sz.symm
  have HE := Lib.hid sz
  clear ez bz sz kz c0 c1 c2 c3 c4 c5
  ((with_reducible refine (reset_any (SessAt.sess (H.out.below HZ.out.1))).mono ?_); rintro e w2 ⟨rfl, s2, r2, k2⟩)
  have hwb : w.heap.size ≠ b := by omega
  have hbx : w2.heap[w.heap.size]? = some (.cells #[.bool true, .bool S.dirty, .bool S.refused] 57 (0, 0)) := by
    rw [k2 _ hwb (by omega)]; exact HZ.out.2
  have q1 : w2.cell? ⟨w.heap.size, 1, none⟩ = some (.bool S.dirty) := by simp [World.cell?, hbx]
  have q2 : w2.cell? ⟨w.heap.size, 2, none⟩ = some (.bool S.refused) := by simp [World.cell?, hbx]
  have hrows : RowsR w2 F (.slice ao S.queue.length cp) S.queue := by
    have hz := H.out.below HZ.out.1
    refine hz.rows.kept_by fun k cur e he hk => k2 k ?_ (Array.getElem?_eq_some_iff.1 hk).1
    rintro rfl
    rw [hz.block] at hk
    simp only [Option.some.injEq, Obj.cells.injEq] at hk
    rcases he with he | he <;> (rw [he] at hk; simp at hk)
  have HR := Lib.hid (And.intro hrows s2)
  have HW := Lib.hid ((Wr.of_below (F := F) HZ.out.1).trans r2 (Grew.refl _ _))
  have HG : Hid (Grew w F (fun k => F k ∨ k = wz.heap.size)) := fun k hk => hk.imp id (fun e => by omega)
  clear hrows s2 r2 k2 hbx
  have eS : S.execS = S.gone := by unfold SessM.execS; rw [if_neg (by simp [hm])]
  have ES := Lib.hid eS
  clear eS
  rcases hr : S.refused with _ | _
  · rcases hd : S.dirty with _ | _
    · have HN : Hid (S.execN = 1) := by show S.execN = 1; unfold SessM.execN; simp [hm, hr, hd]
      have HQ : Hid (S.execQ = S.queue) := by show S.execQ = S.queue; unfold SessM.execQ; simp [hm, hr, hd]
      rw [hr] at q2
      rw [hd] at q1
      go_wp2
      go_ret2
      exact ⟨.slice ao S.queue.length cp, _, by rw [HN.out]; rfl, by rw [HQ.out]; exact HR.out.1, by rw [ES.out]; exact HR.out.2, HG.out, HW.out⟩
    · have HN : Hid (S.execN = 2) := by show S.execN = 2; unfold SessM.execN; simp [hm, hr, hd]
      have HQ : Hid (S.execQ = []) := by show S.execQ = []; unfold SessM.execQ; simp [hm, hr, hd]
      rw [hr] at q2
      rw [hd] at q1
      go_wp2
      go_ret2
      exact ⟨.slice none 0 0, _, by rw [HN.out]; rfl, by rw [HQ.out]; exact RowsR.nil _ _, by rw [ES.out]; exact HR.out.2, HG.out, HW.out⟩
  · have HN : Hid (S.execN = 3) := by show S.execN = 3; unfold SessM.execN; simp [hm, hr]
    have HQ : Hid (S.execQ = []) := by show S.execQ = []; unfold SessM.execQ; simp [hm, hr]
    rw [hr] at q2
    go_wp2
    go_ret2
    exact ⟨.slice none 0 0, _, by rw [HN.out]; rfl, by rw [HQ.out]; exact RowsR.nil _ _, by rw [ES.out]; exact HR.out.2, HG.out, HW.out⟩

/-- Keys were touched. -/
def SessM.touch (S : SessM) (bs : List ByteArray) : SessM := { S with dirty := S.dirty || bs.any fun x => decide (x.data.toList ∈ S.keys) }
theorem look_one {D : DataW Unit} {ks : List (List UInt8)} (h : KeysAre D ks) {x : List UInt8} (hin : x ∈ ks) {c : Int} (hat : D.atKey (.string x) (.lit (.int .i64 0)) = .lit (.int .i64 c)) : c = 1 := by
  have e := (h.one _ hin).symm.trans hat
  simp at e; exact e.symm
theorem look_none {D : DataW Unit} {ks : List (List UInt8)} (h : KeysAre D ks) {x : List UInt8} (hin : x ∉ ks) {c : Int} (hat : D.atKey (.string x) (.lit (.int .i64 0)) = .lit (.int .i64 c)) : c = 0 := by
  have e := (h.not hin).symm.trans hat
  simp at e; exact e.symm
theorem SessM.touch_snoc (S : SessM) (bs : List ByteArray) (x : ByteArray) : S.touch (bs ++ [x]) = { S.touch bs with dirty := (S.touch bs).dirty || decide (x.data.toList ∈ S.keys) } := by
  unfold SessM.touch
  simp [Bool.or_assoc]
theorem zeroI (w : World) : (zeroValue 3).run Try.prog w = .ok (.int .i64 0) w := by kernel_rfl
set_option maxHeartbeats 1600000 in
theorem touch_any {w : World} {b : Nat} {F : Nat → Prop} {S : SessM} (h : Sess w b F S) (v : Value) (bs : List ByteArray) (hs : SRow w v bs) (hbs : ∀ x ∈ bs, x.size ≤ maxLen) (hlen : bs.length ≤ 8796093022208) :
    Calls Try.prog 15 #[.pointer (some ⟨b, 0, none⟩), v] w fun e w' => e = .returned (.tuple #[]) ∧ Sess w' b F (S.touch bs) ∧ Wr F w w' := by
  obtain ⟨qv, bm, D, h⟩ := h
  have hlt := h.lt b h.own
  have H := Lib.hid h
  obtain ⟨ao, cp, rfl, hs2⟩ := hs
  have HS := Lib.hid hs2
  clear hs2 h
  go_enter Try.func15, Try.ntmps15
  go_wp2_with fail
  go_loopw [10] (fun i wr => ∃ k : Nat, k ≤ bs.length ∧ i = .int .i64 k ∧ Hid (SessAt wr b F (S.touch (bs.take k)) qv bm D ∧ Wr F w wr ∧ ∀ x, x ≠ b → wr.heap[x]? = w.heap[x]?)) (fun i _ => bs.length - (intOf i).toNat)
  case atStart => exact ⟨0, Nat.zero_le _, rfl, by simpa [SessM.touch] using H.out, Wr.refl _ _, fun _ _ => rfl⟩
  case round =>
    obtain ⟨k, hk, rfl, hp⟩ := hrel
    by_cases hlt2 : k < bs.length
    · obtain ⟨x, hx⟩ : ∃ x, bs[k]? = some x := ⟨bs[k], List.getElem?_eq_getElem hlt2⟩
      rcases HS.out with rfl | ⟨g, off, rfl, hg, hcell⟩
      · simp at hlt2
      have hxs := hbs x (List.mem_of_getElem? hx)
      have hgb : g ≠ b := by
        rintro rfl
        have := hcell k x hx
        rw [World.cell?, H.out.block] at this
        simp at this
        rcases hi : off + k with _ | _ | _ | _ | _ | _ | n <;> rw [hi] at this <;> simp at this
        obtain ⟨a1, c1, e1⟩ := H.out.shape
        rw [e1] at this; simp at this
      have hc1 : wr.cell? ⟨g, off + k, none⟩ = some (.string x) := (World.cell?_of_block (w := w) (a := ⟨g, off + k, none⟩) (hp.out.2.2 g hgb)).trans (hcell k x hx)
      obtain ⟨c0, c1, c2, c3, c4, c5⟩ := hp.out.1.cells
      have f2 := hp.out.1.free 2
      have hown := hp.out.1.map
      have HX := Lib.hid hx
      have hat0 := hp.out.1.keys
      have HAT := Lib.hid hat0
      clear hcell hx hat0 c0 c1 c3 c4
      by_cases hin : x.data.toList ∈ S.keys
      · go_wp2_with (at_lookup; refine wpList_lookup_own_int _ rfl _ _ 56 rfl 9 3 .i64 strKeyed Try.underlying56 Try.underlying3 (zeroI _) bm _ D rfl hown _ _ rfl (WideMaps.keyOf_string_mk Try.underlying9 hxs) ?_; intro c hat hwc; obtain rfl := look_one HAT.out hin hat; clear hat)
        go_roundw
        case rel =>
          refine ⟨k + 1, by omega, by go_num, ?_, hp.out.2.1.setCell H.out.own _, fun y hy => (Below.heap_setCell _ _ _ _ hy).trans (hp.out.2.2 y hy)⟩
          rw [take_one HX.out, SessM.touch_snoc, decide_eq_true hin, Bool.or_true]
          exact hp.out.1.setD true
        case measure => simp [intOf]; omega
      · go_wp2_with (at_lookup; refine wpList_lookup_own_int _ rfl _ _ 56 rfl 9 3 .i64 strKeyed Try.underlying56 Try.underlying3 (zeroI _) bm _ D rfl hown _ _ rfl (WideMaps.keyOf_string_mk Try.underlying9 hxs) ?_; intro c hat hwc; obtain rfl := look_none HAT.out hin hat; clear hat)
        go_roundw
        case rel =>
          refine ⟨k + 1, by omega, by go_num, ?_, hp.out.2.1, hp.out.2.2⟩
          rw [take_one HX.out, SessM.touch_snoc, decide_eq_false hin, Bool.or_false]
          exact hp.out.1
        case measure => simp [intOf]; omega
    · go_wp2
      go_end0
      obtain rfl : bs.length = k := by omega
      rw [List.take_length] at hp
      exact ⟨rfl, SessAt.sess hp.out.1, hp.out.2.1⟩
end Go.Proofs.Ytflhcffpfiameaa
