/- Feed: the program's, each reply's memory apart. -/
import Derived.Test.YtpngmbdchceikaaDoorOArr
namespace Go.Proofs.YtpngmbdchceikaaDoor
open Go.ChangeShapes Go.WideShapes Go.ChangeAt Go.RowKit
open Pl (R Rd)
set_option linter.unusedVariables false

def OdUni (w : World) (r : R) (k c : Int) (e : Ending) (w' : World) : Prop := (∃ lv, e = .returned (.tuple #[rv r lv, .int .i64 k, .int .i64 c]) ∧ WRow w.heap.size w' lv r.l) ∧ Below w.heap.size w w'
theorem OdEnd.uni {w w' : World} {x : Rd} {e : Ending} (h : OdEnd w 0 x e w') : OdUni w (rdR x) (rdK x) (rdE x) e w' := by
  obtain ⟨h, hb⟩ := h
  cases x with
  | bad => exact ⟨⟨.slice none 0 0, h, WRow.nil _ _⟩, hb⟩
  | more => exact ⟨⟨.slice none 0 0, h, WRow.nil _ _⟩, hb⟩
  | ok r k =>
    obtain ⟨lv, h1, h2⟩ := h
    exact ⟨⟨lv, by rw [h1]; simp [rdR, rdK, rdE], h2⟩, hb⟩
theorem odecode_uni (S : ByteArray) (hS : S.size ≤ 1073741824) {r : R} {k c : Int} (hr : rdR (Pl.rd 8 S.data.toList) = r) (hk : rdK (Pl.rd 8 S.data.toList) = k) (hc : rdE (Pl.rd 8 S.data.toList) = c) (w : World) (hE : Env w) : Calls Tryd.prog 20 #[.string S] w (OdUni w r k c) := by
  subst hr hk hc
  exact (odecode_any S hS w hE).mono fun e w' h => h.uni
/-- What reading on gives. -/
def ONextEnd (w : World) (g v : Nat) (r : R) (c : Int) (rest : List UInt8) (e : Ending) (w' : World) : Prop :=
  ∃ lv, e = .returned (.tuple #[rv r lv, .int .i64 c]) ∧ WRow w.heap.size w' lv r.l ∧ DecIs w' g v (some rest) ∧ But g w w'
set_option maxRecDepth 100000 in
set_option maxHeartbeats 3200000 in
theorem onext_any (w0 : World) (hE : Env w0) (g v : Nat) (h : List UInt8) (hl : h.length ≤ 1073741824) (w : World) (hb : Below w0.heap.size w0 w) (hD : DecIs w g v (some h)) :
    Calls Tryd.prog 38 #[.pointer (some ⟨v, 0, none⟩)] w (ONextEnd w g v (rdR (Pl.rd 8 h)) (rdE (Pl.rd 8 h)) (h.drop (rdN' (Pl.rd 8 h)))) := by
  have hS := str_size h
  have hdat := str_data h
  have hk := rdN_le h
  have hK := rdK_nat (Pl.rd 8 h)
  obtain ⟨r, hr⟩ : ∃ r, rdR (Pl.rd 8 h) = r := ⟨_, rfl⟩
  obtain ⟨k, hk0⟩ : ∃ k, rdN' (Pl.rd 8 h) = k := ⟨_, rfl⟩
  obtain ⟨c, hc⟩ : ∃ c, rdE (Pl.rd 8 h) = c := ⟨_, rfl⟩
  rw [hk0] at hk hK
  rw [hr, hk0, hc]
  obtain ⟨S, hSS⟩ : ∃ S, str h = S := ⟨_, rfl⟩
  rw [hSS] at hS hdat
  have HD := Lib.hid (fun W (hh : Env W) => odecode_uni S (by omega) (show rdR (Pl.rd 8 S.data.toList) = r by rw [hdat]; exact hr) (show rdK (Pl.rd 8 S.data.toList) = (k : Int) by rw [hdat]; exact hK) (show rdE (Pl.rd 8 S.data.toList) = c by rw [hdat]; exact hc) W hh)
  unfold OdUni at HD
  have hrest : S.extract k h.length = str (h.drop k) := by
    rw [← hS, ← str_of (S.extract k S.size), sub_all, hdat]
  have HRest := Lib.hid hrest
  have hDb := hD.box
  simp only [Option.getD, Option.isNone] at hDb
  rw [hSS] at hDb
  have B0 := Lib.hid (show Below w.heap.size w (w.alloc (.cells #[.int .i64 0, .string ⟨#[]⟩, .int .i64 0, .slice none 0 0] 24)) from (Below.refl _ _).alloc (Nat.le_refl _) _)
  have X0 := Lib.hid (Blk4.new (w := w) (a := .int .i64 0) (b := .string ⟨#[]⟩) (c := .int .i64 0) (d := .slice none 0 0) rfl)
  have D0 := Lib.hid (hDb.alloc (.cells #[.int .i64 0, .string ⟨#[]⟩, .int .i64 0, .slice none 0 0] 24))
  have V0 := Lib.hid (hD.var.alloc (.cells #[.int .i64 0, .string ⟨#[]⟩, .int .i64 0, .slice none 0 0] 24))
  have E0 := Lib.hid ((hE.kept hb).kept B0.out)
  have hg := hDb.lt
  have hv := hD.var.lt
  have hvg := hD.ne
  have hkS : (k : Int) ≤ S.size := by omega
  obtain ⟨d0, d1, d2⟩ := D0.out.cells
  have v0 := V0.out.cell
  clear hD hDb hr hk0 hc hSS hrest hE hb hdat hl hK
  go_enter Tryd.func38, Tryd.ntmps38
  go_wp2_with fail
  ((with_reducible refine (HD.out _ E0.out).mono ?_); rintro e w4 ⟨⟨lv, rfl, r4⟩, b4⟩)
  obtain ⟨a4, c4, rfl⟩ := r4.shape
  have hz := b4.size
  have hz1 : w.heap.size < w4.heap.size := by have := X0.out.lt; have := b4.size; omega
  have R5 := Lib.hid (show WRow (w.heap.size + 1) (w4.alloc (.cells #[.int .i64 r.k, .string (str r.t), .int .i64 r.n, .slice a4 r.l.length c4] 24)) (.slice a4 r.l.length c4) r.l from (WRow.mono (base' := w.heap.size + 1) r4 (by simp)).later ((Below.refl _ _).alloc (Nat.le_refl _) _))
  have X5 := Lib.hid ((X0.out.later b4).alloc (.cells #[.int .i64 r.k, .string (str r.t), .int .i64 r.n, .slice a4 r.l.length c4] 24))
  have D5 := Lib.hid ((D0.out.later b4).alloc (.cells #[.int .i64 r.k, .string (str r.t), .int .i64 r.n, .slice a4 r.l.length c4] 24))
  have V5 := Lib.hid ((V0.out.later b4).alloc (.cells #[.int .i64 r.k, .string (str r.t), .int .i64 r.n, .slice a4 r.l.length c4] 24))
  have N5 := Lib.hid ((But.of_below (g := g) (B0.out.trans (b4.mono B0.out.size))).alloc (.cells #[.int .i64 r.k, .string (str r.t), .int .i64 r.n, .slice a4 r.l.length c4] 24))
  have G5 := Lib.hid (Blk4.new (w := w4) (a := .int .i64 r.k) (b := .string (str r.t)) (c := .int .i64 r.n) (d := .slice a4 r.l.length c4) rfl)
  obtain ⟨w5, hw5⟩ : ∃ w5, w4.alloc (.cells #[.int .i64 r.k, .string (str r.t), .int .i64 r.n, .slice a4 r.l.length c4] 24) = w5 := ⟨_, rfl⟩
  rw [hw5] at R5 X5 D5 V5 N5 G5
  obtain ⟨d5, d6, d7⟩ := D5.out.cells
  have d8 := fun i => D5.out.free i
  have v5 := V5.out.cell
  have G6 := Lib.hid (fun u => G5.out.other (p := ⟨g, 0, none⟩) (by simp; omega) u)
  have g6 := fun u => (G6.out u).cells
  have X6 := Lib.hid (fun u => X5.out.other (p := ⟨g, 0, none⟩) (by simp; omega) u)
  have x6 := fun u => (X6.out u).cells
  have x7 := fun u i => (X6.out u).free i
  clear r4 b4 d0 d1 d2 v0
  go_wp2_with fail
  go_still_tail 9, (by kernel_rfl)
  go_wp2
  rw [HRest.out]
  have hgx : g ≠ w.heap.size := by omega
  have hvx : v ≠ w.heap.size := by omega
  refine bodyPost_ret (read2_end rfl rfl (((((X6.out _).set0 _).set1 _).set2 _).set3 _).drew) rfl ⟨.slice a4 r.l.length c4, rfl, ?_, ⟨?_, ?_⟩, ?_⟩
  · exact ((((((R5.out.set ⟨g, 0, none⟩ (by simp; omega) _).set ⟨w.heap.size, 0, none⟩ (by simp) _).set ⟨w.heap.size, 1, none⟩ (by simp) _).set ⟨w.heap.size, 2, none⟩ (by simp) _).set ⟨w.heap.size, 3, none⟩ (by simp) _).drew).mono (by omega)
  · exact ((((((D5.out.set0 _).other hgx _).other hgx _).other hgx _).other hgx _)).drew
  · exact ((((((V5.out.other hvg _).other hvx _).other hvx _).other hvx _).other hvx _)).drew
  · exact ((((((N5.out.set (.inl rfl) _).set (.inr (Nat.le_refl _)) _).set (.inr (Nat.le_refl _)) _).set (.inr (Nat.le_refl _)) _).set (.inr (Nat.le_refl _)) _)).drew1
/-- What Feed gives. -/
def OFeedEnd (w : World) (g v : Nat) (x : List R × Option (List UInt8)) (e : Ending) (w' : World) : Prop :=
  ∃ lv, e = .returned (.tuple #[lv, .int .i64 (codeOf x.2)]) ∧ WRow w.heap.size w' lv x.1 ∧ DecIs w' g v x.2 ∧ But g w w'
set_option maxRecDepth 100000 in
set_option maxHeartbeats 6400000 in
theorem ofeed_some (w0 : World) (hE : Env w0) (g v : Nat) (h : List UInt8) (S : ByteArray) (hl : h.length + S.size ≤ 1073741824) (w : World) (hb : Below w0.heap.size w0 w) (hg0 : w0.heap.size ≤ g) (hD : DecIs w g v (some h)) :
    Calls Tryd.prog 23 #[.pointer (some ⟨g, 0, none⟩), .string S] w (OFeedEnd w g v (Pl.fed (h ++ S.data.toList))) := by
  have hbx := hD.box
  simp only [Option.getD, Option.isNone] at hbx
  obtain ⟨T, hT⟩ : ∃ T, str h = T := ⟨_, rfl⟩
  have hTs : T.size = h.length := by rw [← hT, str_size]
  have hTS : T ++ S = str (h ++ S.data.toList) := by rw [← hT, ← str_of ((str h) ++ S)]; simp [str]
  rw [hT] at hbx
  have hsum : T.size + S.size ≤ 1073741824 := by omega
  have D1 := Lib.hid (show DecIs (w.setCell ⟨g, 0, none⟩ (.string (T ++ S))) g v (some (h ++ S.data.toList)) from ⟨by rw [hTS]; exact hbx.set0 _, hD.var.other hD.ne _⟩)
  have N1 := Lib.hid ((But.refl g w).set (p := ⟨g, 0, none⟩) (.inl rfl) (.string (T ++ S)))
  have hgw := hbx.lt
  have hvw := hD.var.lt
  have hbw := hb.size
  have HB := Lib.hid hb
  have HE := Lib.hid hE
  have hnf : ∀ W : World, (binOp BinOp.eql 69 (nextF v) .nilFunc).run Tryd.prog W = .ok (.bool false) W := fun W => rfl
  obtain ⟨L, hL⟩ : ∃ L, h ++ S.data.toList = L := ⟨_, rfl⟩
  have hLl : L.length ≤ 1073741824 := by rw [← hL, List.length_append]; simp; omega
  rw [hL] at D1 ⊢
  obtain ⟨d0, d1, d2⟩ := hbx.cells
  have d3 := fun i => hbx.free i
  clear hD hbx hb hE hT hTs hTS hL hl
  go_enter Tryd.func23, Tryd.ntmps23
  go_wp2_with fail
  clear d0 d1 d2 d3
  go_loopw [6] (fun o wr => ∃ (rest : List UInt8) (acc : List R), Hid (Pl.fed L = (acc ++ (Pl.fed rest).1, (Pl.fed rest).2)) ∧ rest.length + acc.length ≤ L.length ∧ Hid (WRow w.heap.size wr o acc) ∧ Hid (DecIs wr g v (some rest)) ∧ Hid (But g w wr)) (fun _ wr => heldLen wr g)
  case atStart => exact ⟨L, [], (by show _ = _; simp), by simp, WRow.nil _ _, D1.out, N1.out⟩
  case round =>
    obtain ⟨rest, acc, HF, hlen, hrow, HD, HN⟩ := hrel
    have hbr := Lib.hid (HB.out.trans (HN.out.below hg0 (by omega)))
    have hnx := onext_any w0 HE.out g v rest (by omega) _ hbr.out HD.out
    have hwz := HN.out.size
    have hown := WRow.own hrow.out
    have hml := heldLen_of HD.out
    obtain ⟨d0, d1, d2⟩ := HD.out.box.cells
    unfold ONextEnd at hnx
    cases hx : Pl.rd 8 rest with
    | bad =>
      rw [hx] at hnx
      have HX : Hid (Pl.fed L = (acc, none)) := (by show _ = _; rw [HF.out, Pl.fed_bad hx, List.append_nil])
      have HI : Hid (Calls Tryd.prog 38 #[.pointer (some ⟨v, 0, none⟩)] wr (ONextEnd wr g v (.mk 0 [] 0 []) 30 rest)) := Lib.hid hnx
      unfold ONextEnd at HI
      clear hnx hx
      go_wp2_with fail
      ((with_reducible refine HI.out.mono ?_); rintro e w5 ⟨lv, rfl, r5, hD5, hN5⟩)
      obtain ⟨a5, c5, rfl⟩ := r5.shape
      have hal : ∀ o, Below w5.heap.size w5 (w5.alloc o) := fun o => (Below.refl _ _).alloc (Nat.le_refl _) _
      have R6 := Lib.hid (fun o => (show WRow w.heap.size (w5.alloc o) _ acc from (WRow.but hrow.out hN5 hgw).later (hal o)))
      have D6 := Lib.hid (fun o => (hD5.box).alloc o)
      have V6 := Lib.hid (fun o => (hD5.var).alloc o)
      have N6 := Lib.hid (fun o => (HN.out.trans hN5).alloc o)
      have hvg := hD5.ne
      have e6 := fun o i => (D6.out o).free i
      have f6 := fun o => (D6.out o).cells
      obtain ⟨ao, co, rfl⟩ := hrow.out.shape
      clear r5 hD5 hN5 d0 d1 d2 hal
      go_wp2
      go_ret2
      rw [HX.out]
      refine ⟨_, rfl, ?_, ⟨?_, ?_⟩, ?_⟩
      · exact WRow.set (WRow.set (R6.out _) ⟨g, 2, none⟩ hgw _) ⟨g, 0, none⟩ hgw _
      · exact ((D6.out _).set2 _).set0 _
      · exact ((V6.out _).other hvg _).other hvg _
      · exact ((N6.out _).set (.inl rfl) _).set (.inl rfl) _
    | more =>
      rw [hx] at hnx
      have HX : Hid (Pl.fed L = (acc, some rest)) := (by show _ = _; rw [HF.out, Pl.fed_more hx, List.append_nil])
      have HI : Hid (Calls Tryd.prog 38 #[.pointer (some ⟨v, 0, none⟩)] wr (ONextEnd wr g v (.mk 0 [] 0 []) 31 rest)) := Lib.hid hnx
      unfold ONextEnd at HI
      clear hnx hx
      go_wp2_with fail
      ((with_reducible refine HI.out.mono ?_); rintro e w5 ⟨lv, rfl, r5, hD5, hN5⟩)
      obtain ⟨a5, c5, rfl⟩ := r5.shape
      have hal : ∀ o, Below w5.heap.size w5 (w5.alloc o) := fun o => (Below.refl _ _).alloc (Nat.le_refl _) _
      have R6 := Lib.hid (fun o => (show WRow w.heap.size (w5.alloc o) _ acc from (WRow.but hrow.out hN5 hgw).later (hal o)))
      have D6 := Lib.hid (fun o => hD5.later (hal o))
      have N6 := Lib.hid (fun o => (HN.out.trans hN5).alloc o)
      obtain ⟨ao, co, rfl⟩ := hrow.out.shape
      clear r5 hD5 hN5 d0 d1 d2 hal
      go_wp2
      go_ret2
      rw [HX.out]
      exact ⟨_, rfl, R6.out _, D6.out _, N6.out _⟩
    | ok r k =>
      rw [hx] at hnx
      have HX : Hid (Pl.fed L = ((acc ++ [r]) ++ (Pl.fed (rest.drop k)).1, (Pl.fed (rest.drop k)).2)) := (by show _ = _; rw [HF.out, Pl.fed_ok hx]; simp)
      have HI : Hid (Calls Tryd.prog 38 #[.pointer (some ⟨v, 0, none⟩)] wr (ONextEnd wr g v r 0 (rest.drop k))) := Lib.hid hnx
      unfold ONextEnd at HI
      obtain ⟨k1, k2⟩ := ((Pl.rd_ext 8).1 _ _ _ hx).1
      obtain ⟨s1, s2, s3, s4⟩ := Pl.rd_small hx
      have hok : OkR r := ⟨s3, s4, by omega, by omega⟩
      have hdl : (rest.drop k).length = rest.length - k := List.length_drop
      clear hnx hx s1 s2 s3 s4
      go_wp2_with fail
      ((with_reducible refine HI.out.mono ?_); rintro e w5 ⟨lv, rfl, r5, hD5, hN5⟩)
      obtain ⟨a5, c5, rfl⟩ := r5.shape
      have hz5 := hN5.size
      have hal : ∀ o, Below w5.heap.size w5 (w5.alloc o) := fun o => (Below.refl _ _).alloc (Nat.le_refl _) _
      have R6 := Lib.hid (fun o => ((ORow.lt hrow.out).kept (fun b h1 h2 => hN5.block b h1.2 (by omega)) : ORow w5 (fun b => w.heap.size ≤ b ∧ b < wr.heap.size) u6 acc).later (hal o))
      have L6 := Lib.hid (fun o => (show ORow (w5.alloc o) (fun b => wr.heap.size ≤ b) _ r.l from ORow.later r5 (hal o)))
      have D6 := Lib.hid (fun o => hD5.later (hal o))
      have N6 := Lib.hid (fun o => (HN.out.trans hN5).alloc o)
      have HD1 := Lib.hid (show ∀ b, (w.heap.size ≤ b ∧ b < wr.heap.size) → wr.heap.size ≤ b → False from fun b h1 h2 => by omega)
      have HD2 := Lib.hid (show ∀ b, (w.heap.size ≤ b ∧ b < wr.heap.size) → w.heap.size ≤ b from fun b h1 => h1.1)
      have HD3 := Lib.hid (show ∀ b, wr.heap.size ≤ b → w.heap.size ≤ b from fun b h1 => by omega)
      have hacl : acc.length ≤ 1073741824 := by omega
      clear r5 hD5 hN5 d0 d1 d2 hal
      go_wp2_with (at_builtin; refine wpList_append_o (w5.alloc (.cells #[.int .i64 r.k, .string (str r.t), .int .i64 r.n, .slice a5 r.l.length c5] 24)) rfl (.tmp 50) (.tmp 52) rfl w.heap.size u6 acc rfl _ _ (R6.out _) r _ hok rfl (L6.out _) HD1.out HD2.out HD3.out (by simp [Act.eval]) hacl (by simp; omega) ?_)
      intro v7 w7 hrow7 hB7 hz7 hk7
      obtain ⟨a7, c7, hv7⟩ := hrow7.shape
      rw [List.length_append] at hv7
      subst hv7
      have hgo : some g ≠ u6.ownBlock := fun e => by have := (hown g e.symm).1; omega
      have hvo : v < w.heap.size → some v ≠ u6.ownBlock := fun hv e => by have := (hown v e.symm).1; omega
      have hDa := D6.out (.cells #[.int .i64 r.k, .string (str r.t), .int .i64 r.n, .slice a5 r.l.length c5] 24)
      have D7 := Lib.hid (show DecIs w7 g v (some (rest.drop k)) from ⟨hDa.box.kept (hk7 _ (by have := hDa.box.lt; simpa using this) hgo), hDa.var.kept (hk7 _ (by have := hDa.var.lt; simpa using this) (hvo hvw))⟩)
      have N7 := Lib.hid ((N6.out _).then (hB7 _ _ (Below.refl _ _) (Nat.le_refl _)))
      have R7 := Lib.hid hrow7
      clear hrow7 hB7 hk7 hDa
      go_wp2
      go_roundw
      case rel => exact ⟨rest.drop k, acc ++ [r], HX, by rw [List.length_append]; simp; omega, R7.out, D7.out, N7.out⟩
      case measure => rw [heldLen_of D7.out, hml]; omega
end Go.Proofs.YtpngmbdchceikaaDoor
