/- Feed: the program's. -/
import Derived.Test.YtpngmbdchceikaaDoorFeed
namespace Go.Proofs.YtpngmbdchceikaaDoor
open Go.ChangeShapes Go.WideShapes Go.ChangeAt Go.RowKit
open Pl (R Rd)
set_option linter.unusedVariables false

theorem But.then {g : Nat} {a b c : World} (h : But g a b) (hb : Below a.heap.size b c) : But g a c :=
  ⟨hb.os.trans h.os, hb.tape.trans h.tape, hb.output.trans h.output, Nat.le_trans h.size hb.size, fun k hk hg => (hb.block k hk).trans (h.block k hk hg)⟩
def heldLen (w : World) (g : Nat) : Nat := match w.cell? ⟨g, 0, none⟩ with | some (.string s) => s.size | _ => 0
theorem heldLen_of {w : World} {g v : Nat} {h : List UInt8} (hD : DecIs w g v (some h)) : heldLen w g = h.length := by
  unfold heldLen
  rw [hD.box.cells.1]
  exact str_size h
def codeOf (st : Option (List UInt8)) : Int := match st with | none => 30 | some _ => 0
/-- What Feed gives. -/
def FeedEnd (w : World) (g v : Nat) (x : List R × Option (List UInt8)) (e : Ending) (w' : World) : Prop :=
  ∃ lv, e = .returned (.tuple #[lv, .int .i64 (codeOf x.2)]) ∧ RRow w.heap.size w' lv x.1 ∧ DecIs w' g v x.2 ∧ But g w w'
set_option maxRecDepth 100000 in
set_option maxHeartbeats 3200000 in
theorem feed_none (g v : Nat) (S : ByteArray) (w : World) (hD : DecIs w g v none) : Calls Tryd.prog 23 #[.pointer (some ⟨g, 0, none⟩), .string S] w (FeedEnd w g v ([], none)) := by
  have HD := Lib.hid hD
  have hb := hD.box
  simp only [Option.getD, Option.isNone] at hb
  obtain ⟨d0, d1, d2⟩ := hb.cells
  clear hD hb
  go_enter Tryd.func23, Tryd.ntmps23
  go_wp2
  go_ret2
  exact ⟨_, rfl, RRow.nil _ _, HD.out, But.refl _ _⟩
set_option maxRecDepth 100000 in
set_option maxHeartbeats 6400000 in
theorem feed_some (w0 : World) (hE : Env w0) (g v : Nat) (h : List UInt8) (S : ByteArray) (hl : h.length + S.size ≤ 1073741824) (w : World) (hb : Below w0.heap.size w0 w) (hg0 : w0.heap.size ≤ g) (hD : DecIs w g v (some h)) :
    Calls Tryd.prog 23 #[.pointer (some ⟨g, 0, none⟩), .string S] w (FeedEnd w g v (Pl.fed (h ++ S.data.toList))) := by
  have hbx := hD.box
  simp only [Option.getD, Option.isNone] at hbx
  obtain ⟨T, hT⟩ : ∃ T, str h = T := ⟨_, rfl⟩
  have hTs : T.size = h.length := by rw [← hT, str_size]
  have hTS : T ++ S = str (h ++ S.data.toList) := by rw [← hT, ← str_of ((str h) ++ S)]; simp [str]
  rw [hT] at hbx
  have hsum : T.size + S.size ≤ 1073741824 := by omega
  have D1 := Lib.hid (show DecIs (w.setCell ⟨g, 0, none⟩ (.string (T ++ S))) g v (some (h ++ S.data.toList)) from ⟨by rw [hTS]; exact hbx.set0 _, hD.var.other hD.ne _⟩)
  have N1 := Lib.hid ((But.refl g w).set (p := ⟨g, 0, none⟩) (.inl rfl) (.string (T ++ S)))
  have hgw := hbx.lt
  have hvw := hD.var.lt
  have hbw := hb.size
  have HB := Lib.hid hb
  have HE := Lib.hid hE
  have hnf : ∀ W : World, (binOp BinOp.eql 69 (nextF v) .nilFunc).run Tryd.prog W = .ok (.bool false) W := fun W => rfl
  obtain ⟨L, hL⟩ : ∃ L, h ++ S.data.toList = L := ⟨_, rfl⟩
  have hLl : L.length ≤ 1073741824 := by rw [← hL, List.length_append]; simp; omega
  rw [hL] at D1 ⊢
  obtain ⟨d0, d1, d2⟩ := hbx.cells
  have d3 := fun i => hbx.free i
  clear hD hbx hb hE hT hTs hTS hL hl
  go_enter Tryd.func23, Tryd.ntmps23
  go_wp2_with fail
  clear d0 d1 d2 d3
  go_loopw [6] (fun o wr => ∃ (rest : List UInt8) (acc : List R), Hid (Pl.fed L = (acc ++ (Pl.fed rest).1, (Pl.fed rest).2)) ∧ rest.length + acc.length ≤ L.length ∧ Hid (RRow w.heap.size wr o acc) ∧ Hid (DecIs wr g v (some rest)) ∧ Hid (But g w wr)) (fun _ wr => heldLen wr g)
  case atStart => exact ⟨L, [], (by show _ = _; simp), by simp, RRow.nil _ _, D1.out, N1.out⟩
  case round =>
    obtain ⟨rest, acc, HF, hlen, hrow, HD, HN⟩ := hrel
    have hbr := Lib.hid (HB.out.trans (HN.out.below hg0 (by omega)))
    have hnx := next_any w0 HE.out g v rest (by omega) _ hbr.out HD.out
    have hwz := HN.out.size
    have hown := hrow.out.own
    have hml := heldLen_of HD.out
    obtain ⟨d0, d1, d2⟩ := HD.out.box.cells
    unfold NextEnd at hnx
    cases hx : Pl.rd 8 rest with
    | bad =>
      rw [hx] at hnx
      have HX : Hid (Pl.fed L = (acc, none)) := (by show _ = _; rw [HF.out, Pl.fed_bad hx, List.append_nil])
      have HI : Hid (Calls Tryd.prog 38 #[.pointer (some ⟨v, 0, none⟩)] wr (NextEnd wr g v (.mk 0 [] 0 []) 30 rest)) := Lib.hid hnx
      unfold NextEnd at HI
      clear hnx hx
      go_wp2_with fail
      ((with_reducible refine HI.out.mono ?_); rintro e w5 ⟨lv, rfl, r5, hD5, hN5⟩)
      obtain ⟨a5, c5, rfl⟩ := r5.shape
      have hal : ∀ o, Below w5.heap.size w5 (w5.alloc o) := fun o => (Below.refl _ _).alloc (Nat.le_refl _) _
      have R6 := Lib.hid (fun o => (hrow.out.but hN5 hgw).later (hal o))
      have D6 := Lib.hid (fun o => (hD5.box).alloc o)
      have V6 := Lib.hid (fun o => (hD5.var).alloc o)
      have N6 := Lib.hid (fun o => (HN.out.trans hN5).alloc o)
      have hvg := hD5.ne
      have e6 := fun o i => (D6.out o).free i
      have f6 := fun o => (D6.out o).cells
      obtain ⟨ao, co, rfl⟩ := hrow.out.shape
      clear r5 hD5 hN5 d0 d1 d2 hal
      go_wp2
      go_ret2
      rw [HX.out]
      refine ⟨_, rfl, ?_, ⟨?_, ?_⟩, ?_⟩
      · exact ((R6.out _).set ⟨g, 2, none⟩ hgw _).set ⟨g, 0, none⟩ hgw _
      · exact ((D6.out _).set2 _).set0 _
      · exact ((V6.out _).other hvg _).other hvg _
      · exact ((N6.out _).set (.inl rfl) _).set (.inl rfl) _
    | more =>
      rw [hx] at hnx
      have HX : Hid (Pl.fed L = (acc, some rest)) := (by show _ = _; rw [HF.out, Pl.fed_more hx, List.append_nil])
      have HI : Hid (Calls Tryd.prog 38 #[.pointer (some ⟨v, 0, none⟩)] wr (NextEnd wr g v (.mk 0 [] 0 []) 31 rest)) := Lib.hid hnx
      unfold NextEnd at HI
      clear hnx hx
      go_wp2_with fail
      ((with_reducible refine HI.out.mono ?_); rintro e w5 ⟨lv, rfl, r5, hD5, hN5⟩)
      obtain ⟨a5, c5, rfl⟩ := r5.shape
      have hal : ∀ o, Below w5.heap.size w5 (w5.alloc o) := fun o => (Below.refl _ _).alloc (Nat.le_refl _) _
      have R6 := Lib.hid (fun o => (hrow.out.but hN5 hgw).later (hal o))
      have D6 := Lib.hid (fun o => hD5.later (hal o))
      have N6 := Lib.hid (fun o => (HN.out.trans hN5).alloc o)
      obtain ⟨ao, co, rfl⟩ := hrow.out.shape
      clear r5 hD5 hN5 d0 d1 d2 hal
      go_wp2
      go_ret2
      rw [HX.out]
      exact ⟨_, rfl, R6.out _, D6.out _, N6.out _⟩
    | ok r k =>
      rw [hx] at hnx
      have HX : Hid (Pl.fed L = ((acc ++ [r]) ++ (Pl.fed (rest.drop k)).1, (Pl.fed (rest.drop k)).2)) := (by show _ = _; rw [HF.out, Pl.fed_ok hx]; simp)
      have HI : Hid (Calls Tryd.prog 38 #[.pointer (some ⟨v, 0, none⟩)] wr (NextEnd wr g v r 0 (rest.drop k))) := Lib.hid hnx
      unfold NextEnd at HI
      obtain ⟨k1, k2⟩ := ((Pl.rd_ext 8).1 _ _ _ hx).1
      obtain ⟨s1, s2, s3, s4⟩ := Pl.rd_small hx
      have hok : OkR r := ⟨s3, s4, by omega, by omega⟩
      have hdl : (rest.drop k).length = rest.length - k := List.length_drop
      clear hnx hx s1 s2 s3 s4
      go_wp2_with fail
      ((with_reducible refine HI.out.mono ?_); rintro e w5 ⟨lv, rfl, r5, hD5, hN5⟩)
      obtain ⟨a5, c5, rfl⟩ := r5.shape
      have hz5 := hN5.size
      have hal : ∀ o, Below w5.heap.size w5 (w5.alloc o) := fun o => (Below.refl _ _).alloc (Nat.le_refl _) _
      have R6 := Lib.hid (fun o => (hrow.out.but hN5 hgw).later (hal o))
      have L6 := Lib.hid (fun o => r5.lis.later (hal o))
      have D6 := Lib.hid (fun o => hD5.later (hal o))
      have N6 := Lib.hid (fun o => (HN.out.trans hN5).alloc o)
      have hHF := Lib.hid (show ∀ b, wr.heap.size ≤ b → w.heap.size ≤ b ∧ u6.ownBlock ≠ some b from fun b hb2 => ⟨by omega, fun e => by have := (hown b e).2; omega⟩)
      have hacl : acc.length ≤ 1073741824 := by omega
      clear r5 hD5 hN5 d0 d1 d2 hal
      go_wp2_with (at_builtin; refine wpList_append_reply (w5.alloc (.cells #[.int .i64 r.k, .string (str r.t), .int .i64 r.n, .slice a5 r.l.length c5] 24)) rfl (.tmp 50) (.tmp 52) rfl w.heap.size u6 acc rfl (R6.out _) r _ _ hok rfl (L6.out _) hHF.out (by simp [Act.eval]) hacl (by simp; omega) ?_)
      intro v7 w7 hrow7 hB7 hz7 hk7
      obtain ⟨a7, c7, hv7⟩ := hrow7.shape
      rw [List.length_append] at hv7
      subst hv7
      have hgo : some g ≠ u6.ownBlock := fun e => by have := (hown g e.symm).1; omega
      have hvo : v < w.heap.size → some v ≠ u6.ownBlock := fun hv e => by have := (hown v e.symm).1; omega
      have hDa := D6.out (.cells #[.int .i64 r.k, .string (str r.t), .int .i64 r.n, .slice a5 r.l.length c5] 24)
      have D7 := Lib.hid (show DecIs w7 g v (some (rest.drop k)) from ⟨hDa.box.kept (hk7 _ (by have := hDa.box.lt; simpa using this) hgo), hDa.var.kept (hk7 _ (by have := hDa.var.lt; simpa using this) (hvo hvw))⟩)
      have N7 := Lib.hid ((N6.out _).then (hB7 _ _ (Below.refl _ _) (Nat.le_refl _)))
      have R7 := Lib.hid hrow7
      clear hrow7 hB7 hk7 hDa
      go_wp2
      go_roundw
      case rel => exact ⟨rest.drop k, acc ++ [r], HX, by rw [List.length_append]; simp; omega, R7.out, D7.out, N7.out⟩
      case measure => rw [heldLen_of D7.out, hml]; omega
end Go.Proofs.YtpngmbdchceikaaDoor
