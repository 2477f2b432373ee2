/- The walk of RespBegins. -/
import Derived.Test.YtpngmbdchceikaaDoorFeed2
import Derived.Test.YtpngmbdchceikaaDoorRespBackW
namespace Go.Proofs.YtpngmbdchceikaaDoor
open Go.ChangeShapes Go.WideShapes Go.ChangeAt Go.RowKit
open Pl (R Rd)
set_option linter.unusedVariables false

theorem Blk4.but {w w' : World} {b g : Nat} {x y z u : Value} (h : Blk4 w b x y z u) (hb : But g w w') (hne : b ≠ g) : Blk4 w' b x y z u := h.kept (hb.block b h.lt hne)
theorem feed_any (w0 : World) (hE : Env w0) (g v : Nat) (st : Option (List UInt8)) (S : ByteArray) (hl : (st.getD []).length + S.size ≤ 1073741824) (w : World) (hb : Below w0.heap.size w0 w) (hg0 : w0.heap.size ≤ g) (hD : DecIs w g v st) :
    Calls Tryd.prog 23 #[.pointer (some ⟨g, 0, none⟩), .string S] w (FeedEnd w g v (Pl.step st S.data.toList)) := by
  cases st with
  | none => exact feed_none g v S w hD
  | some h => exact feed_some w0 hE g v h S hl w hb hg0 hD
theorem feed_code {g v : Nat} {rs : List R} {u : List UInt8} {S : ByteArray} {w : World} (h : Calls Tryd.prog 23 #[.pointer (some ⟨g, 0, none⟩), .string S] w (FeedEnd w g v (rs, some u))) : Calls Tryd.prog 23 #[.pointer (some ⟨g, 0, none⟩), .string S] w fun e w' => ∃ lv, e = .returned (.tuple #[lv, .int .i64 0]) ∧ RRow w.heap.size w' lv rs ∧ DecIs w' g v (some u) ∧ But g w w' := h
theorem row_one {base : Nat} {w : World} {ao : Option Addr} {n cp : Nat} {r : R} (h : RRow base w (.slice ao n cp) [r]) : n = 1 ∧ ∃ g off lv, ao = some ⟨g, off, none⟩ ∧ g < w.heap.size ∧ w.cell? ⟨g, off, none⟩ = some (.int .i64 r.k) ∧ w.cell? ⟨g, off + 1, none⟩ = some (.string (str r.t)) ∧ w.cell? ⟨g, off + 2, none⟩ = some (.int .i64 r.n) ∧ w.cell? ⟨g, off + 3, none⟩ = some lv ∧ LIs (fun b => base ≤ b) w lv r.l := by
  obtain ⟨_, _, h1⟩ := h.shape
  have hn : n = 1 := by simp at h1; exact h1.2.1
  obtain ⟨g, off, r', lv, e1, e2, e3, -, k0, k1, k2, k3, k4⟩ := h.lis.at (j := 0) (by simp)
  simp at e3
  subst e3
  simp only [Nat.zero_mul, Nat.add_zero] at k0 k1 k2 k3
  exact ⟨hn, g, off, lv, e1, e2, k0, k1, k2, k3, k4⟩
set_option maxRecDepth 100000 in
set_option maxHeartbeats 6400000 in
theorem respBegins_walk (r : R) (lv : Value) (G : Nat → Prop) (n : Int) (w : World) (hok : OkR r) (hL : LIs G w lv r.l) (hE : Env w) (hlen : (Pl.encL 8 r).length ≤ 67108864) (hn1 : -9223372036854775808 ≤ n) (hn2 : n ≤ 9223372036854775807) :
    Calls Tryd.prog 9 #[rv r lv, .int .i64 n] w fun e w' => e = .returned (.bool true) ∧ Below w.heap.size w w' := by
  have hb0 : Below w.heap.size w (w.alloc (.cells #[.int .i64 r.k, .string (str r.t), .int .i64 r.n, lv] 24)) := (Below.refl _ _).alloc (Nat.le_refl _) _
  have hwf := wf_of 8 r lv G w hok hL
  obtain ⟨ao, cp, rfl⟩ := hL.shape
  have HB0 := Lib.hid hb0
  have P0 := Lib.hid (Blk4.new (w := w) (a := .int .i64 r.k) (b := .string (str r.t)) (c := .int .i64 r.n) (d := .slice ao r.l.length cp) rfl)
  have hen := fun (lv : Value) (F : Nat → Prop) (W : World) (h : LIs F W lv r.l) (hp : Pows W) => encode_any r lv F W hok h hp (fun _ => by omega)
  have HS := Lib.hid (fun (lv lv' : Value) (F F' : Nat → Prop) (W : World) (h : LIs F W lv r.l) (h' : LIs F' W lv' r.l) => same_any r lv lv' F F' W hok h h')
  have HA := Lib.hid (fun W (h : Env W) => awake_any W h)
  have HL := Lib.hid hL
  have HE := Lib.hid hE
  by_cases hmay : ¬ Pl.mayL 8 r = true
  · rw [encV_no hmay] at hen
    have HEn := Lib.hid hen
    clear hen hwf hmay hok hb0 hL hE
    go_enter Tryd.func9, Tryd.ntmps9
    go_wp2_with fail
    ((with_reducible refine (HEn.out _ _ _ (HL.out.later HB0.out) (env_p (HE.out.kept HB0.out))).mono ?_); rintro e w1 ⟨rfl, b1⟩)
    have B1 := Lib.hid (HB0.out.trans (b1.mono HB0.out.size))
    have P1 := Lib.hid (P0.out.later b1)
    clear b1
    go_wp2_with fail
    ((with_reducible refine (HA.out _ (HE.out.kept B1.out)).mono ?_); rintro e w8 ⟨rfl, b8⟩)
    go_wp2
    go_ret
    exact ⟨rfl, B1.out.trans (b8.mono B1.out.size)⟩
  rw [Decidable.not_not] at hmay
  rw [encV_may hmay] at hen
  obtain ⟨T, hT⟩ : ∃ T, str (Pl.encL 8 r) = T := ⟨_, rfl⟩
  rw [hT] at hen
  have HEn := Lib.hid hen
  by_cases hneg : n < 0
  · clear hen hwf hmay hok hb0 hL hE hT
    go_enter Tryd.func9, Tryd.ntmps9
    go_wp2_with fail
    ((with_reducible refine (HEn.out _ _ _ (HL.out.later HB0.out) (env_p (HE.out.kept HB0.out))).mono ?_); rintro e w1 ⟨rfl, b1⟩)
    have B1 := Lib.hid (HB0.out.trans (b1.mono HB0.out.size))
    have P1 := Lib.hid (P0.out.later b1)
    clear b1
    go_wp2_with fail
    ((with_reducible refine (HA.out _ (HE.out.kept B1.out)).mono ?_); rintro e w8 ⟨rfl, b8⟩)
    go_wp2
    go_ret
    exact ⟨rfl, B1.out.trans (b8.mono B1.out.size)⟩
  obtain ⟨nn, rfl⟩ : ∃ nn : Nat, n = nn := ⟨n.toNat, by omega⟩
  have hb := Pl.rd_back 8 r hmay hwf []
  rw [List.append_nil] at hb
  have hne := enc_ne 8 r
  obtain ⟨l, hl⟩ : ∃ l, Pl.encL 8 r = l := ⟨_, rfl⟩
  rw [hl] at hb hne hT hlen
  have hTs : T.size = l.length := by rw [← hT, str_size]
  have hTd : T.data.toList = l := by rw [← hT, str_data]
  have hlpos : 0 < l.length := List.length_pos_iff.2 hne
  have b0 : T.toList.isEmpty = false := by
    rw [ByteArray.toList_eq, List.isEmpty_eq_false_iff, hTd]; exact hne
  obtain ⟨m, hm⟩ : ∃ m, nn % T.size = m := ⟨_, rfl⟩
  have hmlt : m < T.size := by rw [← hm]; exact Nat.mod_lt _ (by omega)
  have hm1 : (nn : Int).tmod (T.size : Int) = (m : Int) := by rw [← hm, Int.tmod_eq_emod_of_nonneg (by omega)]; simp
  have hm2 : (nn : Int) % (T.size : Int) = (m : Int) := by rw [← hm]; simp
  have hz0 : ((T.size : Int) == 0) = false := by rw [beq_eq_false_iff_ne]; omega
  have hz1 : ((T.size : Int) = 0) = False := by rw [eq_iff_iff, iff_false]; omega
  obtain ⟨P, hP⟩ : ∃ P, T.extract 0 m = P := ⟨_, rfl⟩
  obtain ⟨Q, hQ⟩ : ∃ Q, T.extract m T.size = Q := ⟨_, rfl⟩
  have hPd : P.data.toList = l.take m := by
    rw [← hP]
    have := sub_take T 0 m
    simp only [Nat.zero_add, List.drop_zero] at this
    rw [this, hTd]
  have hQd : Q.data.toList = l.drop m := by rw [← hQ, sub_all, hTd]
  have hPs : P.size = m := by rw [← hP, ByteArray.size_extract]; omega
  have hQs : Q.size ≤ T.size := by rw [← hQ, ByteArray.size_extract]; omega
  have hmore : Pl.rd 8 (l.take m) = .more := Pl.rd_begin hb _ (l.drop m) (List.take_append_drop m l).symm (by rw [List.length_take]; omega)
  have hf1 : Pl.step (some []) P.data.toList = ([], some (l.take m)) := by rw [hPd]; simp only [Pl.step, List.nil_append]; exact Pl.fed_more hmore
  have hf2 : Pl.step (some (l.take m)) Q.data.toList = ([r], some []) := by
    rw [hQd]; simp only [Pl.step, List.take_append_drop]
    rw [Pl.fed_ok hb, List.drop_length, Pl.fed_more (Pl.rd_nil 8)]
  have hm3 : (l.take m).length = m := by rw [List.length_take]; omega
  have HDc := Lib.hid (fun W (h : Env W) => decode_uni P (by omega) (show rdR (Pl.rd 8 P.data.toList) = .mk 0 [] 0 [] by rw [hPd, hmore]; rfl) (show rdK (Pl.rd 8 P.data.toList) = 0 by rw [hPd, hmore]; rfl) (show rdE (Pl.rd 8 P.data.toList) = 31 by rw [hPd, hmore]; rfl) W h)
  unfold RdUni at HDc
  have HF1 := Lib.hid (fun g v W (hb : Below w.heap.size w W) (hg : w.heap.size ≤ g) (hD : DecIs W g v (some [])) => by have := feed_any w hE g v (some []) P (by simp; omega) W hb hg hD; rw [hf1] at this; exact feed_code this)
  have HF2 := Lib.hid (fun g v W (hb : Below w.heap.size w W) (hg : w.heap.size ≤ g) (hD : DecIs W g v (some (l.take m))) => by have := feed_any w hE g v (some (l.take m)) Q (by simp only [Option.getD]; omega) W hb hg hD; rw [hf2] at this; exact feed_code this)
  have HH1 := Lib.hid (fun g v W (hD : DecIs W g v (some (l.take m))) => by have := held_any W hD; simp only [Option.getD] at this; rw [hm3] at this; exact this)
  have HH2 := Lib.hid (fun g v W (hD : DecIs W g v (some [])) => held_any W hD)
  have HNw := Lib.hid (fun W => new_any W)
  obtain ⟨pre, hpre⟩ : ∃ pre, l.take m = pre := ⟨_, rfl⟩
  rw [hpre] at HF1 HF2 HH1
  clear hen hwf hmay hok hb0 hL hE hT hb hne hl hTs hTd hlpos hPd hQd hPs hQs hmore hf1 hf2 hm3 hpre hm hlen
  go_enter Tryd.func9, Tryd.ntmps9
  go_wp2_with fail
  ((with_reducible refine (HEn.out _ _ _ (HL.out.later HB0.out) (env_p (HE.out.kept HB0.out))).mono ?_); rintro e w1 ⟨rfl, b1⟩)
  have B1 := Lib.hid (HB0.out.trans (b1.mono HB0.out.size))
  have P1 := Lib.hid (P0.out.later b1)
  clear b1
  go_wp2_with fail
  ((with_reducible refine (HDc.out _ (HE.out.kept B1.out)).mono ?_); rintro e w2 ⟨⟨lv2, rfl, r2⟩, b2⟩)
  obtain ⟨a2, c2, rfl⟩ := r2.shape
  obtain ⟨w3, hw3⟩ : ∃ w3, w2.alloc (.cells #[.int .i64 (R.mk 0 [] 0 []).k, .string (str (R.mk 0 [] 0 []).t), .int .i64 (R.mk 0 [] 0 []).n, .slice a2 (R.mk 0 [] 0 []).l.length c2] 24) = w3 := ⟨_, rfl⟩
  have hb3 : Below w2.heap.size w2 w3 := by rw [← hw3]; exact (Below.refl _ _).alloc (Nat.le_refl _) _
  have B3 := Lib.hid ((B1.out.trans (b2.mono B1.out.size)).trans (hb3.mono (Nat.le_trans B1.out.size b2.size)))
  have P3 := Lib.hid ((P1.out.later b2).later hb3)
  clear r2 b2 hb3
  go_wp2_with fail
  ((with_reducible refine (HNw.out _).mono ?_); rintro e w4 ⟨rfl, hD4, b4, hs4⟩)
  have hP3 := P3.out.lt
  have hB3 := B3.out.size
  have B4 := Lib.hid (B3.out.trans (b4.mono B3.out.size))
  have P4 := Lib.hid (P3.out.later b4)
  have D4 := Lib.hid hD4
  obtain ⟨g, hg⟩ : ∃ g, w3.heap.size = g := ⟨_, rfl⟩
  rw [hg] at D4 hP3 hB3
  clear b4 hD4
  go_wp2_with fail
  ((with_reducible refine (HF1.out _ _ _ B4.out hB3 D4.out).mono ?_); rintro e w5 ⟨lv5, rfl, r5, hD5, hN5⟩)
  obtain ⟨a5, c5, rfl⟩ := r5.shape
  have B5 := Lib.hid (B4.out.trans (hN5.below hB3 B4.out.size))
  have P5 := Lib.hid (P4.out.but hN5 (by omega))
  have D5 := Lib.hid hD5
  clear r5 hD5 hN5
  go_wp2_with fail
  ((with_reducible refine (HH1.out _ _ _ D5.out).mono ?_); rintro e w6 ⟨rfl, b6⟩)
  have B6 := Lib.hid (B5.out.trans (b6.mono B5.out.size))
  have P6 := Lib.hid (P5.out.later b6)
  have D6 := Lib.hid (D5.out.later b6)
  clear b6
  go_wp2_with fail
  ((with_reducible refine (HF2.out _ _ _ B6.out hB3 D6.out).mono ?_); rintro e w7 ⟨lv7, rfl, r7, hD7, hN7⟩)
  obtain ⟨a7, c7, rfl⟩ := r7.shape
  have B7 := Lib.hid (B6.out.trans (hN7.below hB3 B6.out.size))
  have P7 := Lib.hid (P6.out.but hN7 (by omega))
  have D7 := Lib.hid hD7
  obtain ⟨-, g7, off7, le7, rfl, hg7, k0, k1, k2, k3, hl7⟩ := row_one r7
  obtain ⟨aj, cj, rfl⟩ := hl7.shape
  have L7 := Lib.hid hl7
  have hcell : ∀ {p : Addr} {x : Value}, p.block < w7.heap.size → w7.cell? p = some x → ∀ W, Below w7.heap.size w7 W → W.cell? p = some x := fun hp h W hW => (hW.cell hp).trans h
  have KC := Lib.hid (fun W (h : Below w7.heap.size w7 W) => And.intro (P7.out.later h).cells (And.intro (hcell (p := ⟨g7, off7, none⟩) hg7 k0 W h) (And.intro (hcell (p := ⟨g7, off7 + 1, none⟩) hg7 k1 W h) (And.intro (hcell (p := ⟨g7, off7 + 2, none⟩) hg7 k2 W h) (hcell (p := ⟨g7, off7 + 3, none⟩) hg7 k3 W h)))))
  clear r7 hD7 hN7 hl7 hcell k0 k1 k2 k3
  go_wp2_with fail
  refine wp_region_held_drew (S := (fun W => Below w7.heap.size w7 W ∧ (W.cell? ⟨w.heap.size, 0, none⟩ = some (.int .i64 r.k) ∧ W.cell? ⟨w.heap.size, 1, none⟩ = some (.string (str r.t)) ∧ W.cell? ⟨w.heap.size, 2, none⟩ = some (.int .i64 r.n) ∧ W.cell? ⟨w.heap.size, 3, none⟩ = some (.slice ao r.l.length cp)) ∧ (W.cell? ⟨g7, off7, none⟩ = some (.int .i64 r.k) ∧ W.cell? ⟨g7, off7 + 1, none⟩ = some (.string (str r.t)) ∧ W.cell? ⟨g7, off7 + 2, none⟩ = some (.int .i64 r.n) ∧ W.cell? ⟨g7, off7 + 3, none⟩ = some (.slice aj r.l.length cj)))) (by kernel_rfl) ?_ (fun hHeld => ?_)
  · refine (fun h => And.intro h (KC.out _ h)) ?_; first | assumption | exact Below.refl _ _ | exact (Below.refl _ _).drew | exact hHeld.1.trans (bx.mono hHeld.1.size) | exact hHeld.1.trans ((bx.mono hHeld.1.size).drew) | exact Below.drew ‹_›
  refine wpAnyH_take (i := 0) (oi := (Go.Oper.mk (some 76) (Go.Op.move (Go.Operand.tmp 13)) 22 _ #[] none)) (v := ?_) rfl (by kernel_rfl) (by kernel_rfl) (by kernel_rfl) (fun _ _ _ h => h) (Or.inl ⟨by rfl, ?_⟩) hHeld ?_
  rotate_left
  · intro w hSw; (try dsimp only at hSw); go_simp; (try with_reducible rfl)
  simp only [Act.put, List.setIfInBounds_toArray, List.set_cons_zero, List.set_cons_succ]
  refine wpAnyH_take (i := 1) (oi := (Go.Oper.mk (some 77) (Go.Op.call (Go.Call.mk (Go.Callee.builtin Go.Builtin.len) #[Go.Operand.tmp 76] #[22])) 3 _ #[Go.Edge.mk 0 Go.Ground.data] none)) (v := ?_) rfl (by kernel_rfl) (by kernel_rfl) (by kernel_rfl) (fun _ _ _ h => h) (Or.inl ⟨by rfl, ?_⟩) hHeld ?_
  rotate_left
  · intro w hSw; (try dsimp only at hSw); go_simp; (try with_reducible rfl)
  simp only [Act.put, List.setIfInBounds_toArray, List.set_cons_zero, List.set_cons_succ]
  refine wpAnyH_take (i := 2) (oi := (Go.Oper.mk (some 78) (Go.Op.binOp Go.BinOp.eql 3 (Go.Operand.tmp 77) (Go.Operand.const (Go.Value.int Go.IntKind.i64 1)) 3) 4 _ #[Go.Edge.mk 1 Go.Ground.data] none)) (v := ?_) rfl (by kernel_rfl) (by kernel_rfl) (by kernel_rfl) (fun _ _ _ h => h) (Or.inl ⟨by rfl, ?_⟩) hHeld ?_
  rotate_left
  · intro w hSw; (try dsimp only at hSw); go_simp; (try with_reducible rfl)
  simp only [Act.put, List.setIfInBounds_toArray, List.set_cons_zero, List.set_cons_succ]
  refine wpAnyH_take (i := 3) (oi := (Go.Oper.mk (some 79) (Go.Op.move (Go.Operand.tmp 78)) 4 _ #[Go.Edge.mk 2 Go.Ground.data] none)) (v := ?_) rfl (by kernel_rfl) (by kernel_rfl) (by kernel_rfl) (fun _ _ _ h => h) (Or.inl ⟨by rfl, ?_⟩) hHeld ?_
  rotate_left
  · intro w hSw; (try dsimp only at hSw); go_simp; (try with_reducible rfl)
  simp only [Act.put, List.setIfInBounds_toArray, List.set_cons_zero, List.set_cons_succ]
  refine wpAnyH_take (i := 4) (oi := (Go.Oper.mk (some 80) (Go.Op.move (Go.Operand.tmp 12)) 28 _ #[Go.Edge.mk 3 Go.Ground.guard] (some (3, true)))) (v := ?_) rfl (by kernel_rfl) (by kernel_rfl) (by kernel_rfl) (fun _ _ _ h => h) (Or.inl ⟨by rfl, ?_⟩) hHeld ?_
  rotate_left
  · intro w hSw; (try dsimp only at hSw); go_simp; (try with_reducible rfl)
  simp only [Act.put, List.setIfInBounds_toArray, List.set_cons_zero, List.set_cons_succ]
  refine wpAnyH_take (i := 5) (oi := (Go.Oper.mk (some 81) (Go.Op.binOp Go.BinOp.eql 28 (Go.Operand.tmp 80) (Go.Operand.const (Go.Value.int Go.IntKind.i64 0)) 28) 4 _ #[Go.Edge.mk 4 Go.Ground.data, Go.Edge.mk 3 Go.Ground.guard] (some (3, true)))) (v := ?_) rfl (by kernel_rfl) (by kernel_rfl) (by kernel_rfl) (fun _ _ _ h => h) (Or.inl ⟨by rfl, ?_⟩) hHeld ?_
  rotate_left
  · intro w hSw; (try dsimp only at hSw); go_simp; (try with_reducible rfl)
  simp only [Act.put, List.setIfInBounds_toArray, List.set_cons_zero, List.set_cons_succ]
  refine wpAnyH_take (i := 6) (oi := (Go.Oper.mk (some 82) (Go.Op.pick (Go.Operand.tmp 79) (Go.Operand.tmp 81) (Go.Operand.const (Go.Value.bool false))) 4 _ #[Go.Edge.mk 3 Go.Ground.data, Go.Edge.mk 5 Go.Ground.data] none)) (v := ?_) rfl (by kernel_rfl) (by kernel_rfl) (by kernel_rfl) (fun _ _ _ h => h) (Or.inl ⟨by rfl, ?_⟩) hHeld ?_
  rotate_left
  · intro w hSw; (try dsimp only at hSw); go_simp; (try with_reducible rfl)
  simp only [Act.put, List.setIfInBounds_toArray, List.set_cons_zero, List.set_cons_succ]
  refine wpAnyH_take (i := 7) (oi := (Go.Oper.mk (some 83) (Go.Op.move (Go.Operand.tmp 82)) 4 _ #[Go.Edge.mk 6 Go.Ground.data, Go.Edge.mk 3 Go.Ground.chain] none)) (v := ?_) rfl (by kernel_rfl) (by kernel_rfl) (by kernel_rfl) (fun _ _ _ h => h) (Or.inl ⟨by rfl, ?_⟩) hHeld ?_
  rotate_left
  · intro w hSw; (try dsimp only at hSw); go_simp; (try with_reducible rfl)
  simp only [Act.put, List.setIfInBounds_toArray, List.set_cons_zero, List.set_cons_succ]
  refine wpAnyH_take (i := 8) (oi := (Go.Oper.mk (some 84) (Go.Op.move (Go.Operand.tmp 10)) 42 _ #[Go.Edge.mk 7 Go.Ground.guard] (some (7, true)))) (v := ?_) rfl (by kernel_rfl) (by kernel_rfl) (by kernel_rfl) (fun _ _ _ h => h) (Or.inl ⟨by rfl, ?_⟩) hHeld ?_
  rotate_left
  · intro w hSw; (try dsimp only at hSw); go_simp; (try with_reducible rfl)
  simp only [Act.put, List.setIfInBounds_toArray, List.set_cons_zero, List.set_cons_succ]
  refine wpAnyH_ready (rs := [9]) (by kernel_rfl) (by simp) ?_
  refine (AllReadyH.cons (o := (Go.Oper.mk (some 85) (Go.Op.call (Go.Call.mk (Go.Callee.value (Go.Operand.func 26)) #[Go.Operand.tmp 84] #[42])) 3 _ #[Go.Edge.mk 8 Go.Ground.data, Go.Edge.mk 7 Go.Ground.chain, Go.Edge.mk 7 Go.Ground.guard] (some (7, true)))) rfl (fun K hK => ?_) AllReadyH.nil)
  · skip
    go_simp
    (with_reducible refine (HH2.out _ _ _ (D7.out.later hHeld.1)).mono ?_); rintro e wx ⟨rfl, bx⟩
    go_wp2_with fail
    refine hK.out _ _ ?_ (fun hHeld => ?_)
    · refine (fun h => And.intro h (KC.out _ h)) ?_; first | assumption | exact Below.refl _ _ | exact (Below.refl _ _).drew | exact hHeld.1.trans (bx.mono hHeld.1.size) | exact hHeld.1.trans ((bx.mono hHeld.1.size).drew) | exact Below.drew ‹_›
    clear hK K
    (try simp only [Act.put, List.setIfInBounds_toArray, List.set_cons_zero, List.set_cons_succ])
    refine wpAnyH_take (i := 10) (oi := (Go.Oper.mk (some 86) (Go.Op.binOp Go.BinOp.eql 3 (Go.Operand.tmp 85) (Go.Operand.const (Go.Value.int Go.IntKind.i64 0)) 3) 4 _ #[Go.Edge.mk 9 Go.Ground.data, Go.Edge.mk 7 Go.Ground.guard] (some (7, true)))) (v := ?_) rfl (by kernel_rfl) (by kernel_rfl) (by kernel_rfl) (fun _ _ _ h => h) (Or.inl ⟨by rfl, ?_⟩) hHeld ?_
    rotate_left
    · intro w hSw; (try dsimp only at hSw); go_simp; (try with_reducible rfl)
    simp only [Act.put, List.setIfInBounds_toArray, List.set_cons_zero, List.set_cons_succ]
    refine wpAnyH_take (i := 11) (oi := (Go.Oper.mk (some 87) (Go.Op.pick (Go.Operand.tmp 83) (Go.Operand.tmp 86) (Go.Operand.const (Go.Value.bool false))) 4 _ #[Go.Edge.mk 7 Go.Ground.data, Go.Edge.mk 10 Go.Ground.data] none)) (v := ?_) rfl (by kernel_rfl) (by kernel_rfl) (by kernel_rfl) (fun _ _ _ h => h) (Or.inl ⟨by rfl, ?_⟩) hHeld ?_
    rotate_left
    · intro w hSw; (try dsimp only at hSw); go_simp; (try with_reducible rfl)
    simp only [Act.put, List.setIfInBounds_toArray, List.set_cons_zero, List.set_cons_succ]
    refine wpAnyH_take (i := 12) (oi := (Go.Oper.mk (some 88) (Go.Op.move (Go.Operand.tmp 87)) 4 _ #[Go.Edge.mk 11 Go.Ground.data, Go.Edge.mk 9 Go.Ground.chain] none)) (v := ?_) rfl (by kernel_rfl) (by kernel_rfl) (by kernel_rfl) (fun _ _ _ h => h) (Or.inl ⟨by rfl, ?_⟩) hHeld ?_
    rotate_left
    · intro w hSw; (try dsimp only at hSw); go_simp; (try with_reducible rfl)
    simp only [Act.put, List.setIfInBounds_toArray, List.set_cons_zero, List.set_cons_succ]
    refine wpAnyH_take (i := 13) (oi := (Go.Oper.mk (some 89) (Go.Op.move (Go.Operand.tmp 13)) 22 _ #[Go.Edge.mk 12 Go.Ground.guard] (some (12, true)))) (v := ?_) rfl (by kernel_rfl) (by kernel_rfl) (by kernel_rfl) (fun _ _ _ h => h) (Or.inl ⟨by rfl, ?_⟩) hHeld ?_
    rotate_left
    · intro w hSw; (try dsimp only at hSw); go_simp; (try with_reducible rfl)
    simp only [Act.put, List.setIfInBounds_toArray, List.set_cons_zero, List.set_cons_succ]
    refine wpAnyH_take (i := 14) (oi := (Go.Oper.mk (some 90) (Go.Op.indexAddr 22 (Go.Operand.tmp 89) (Go.Operand.const (Go.Value.int Go.IntKind.i64 0))) 0 _ #[Go.Edge.mk 13 Go.Ground.data, Go.Edge.mk 12 Go.Ground.guard] (some (12, true)))) (v := ?_) rfl (by kernel_rfl) (by kernel_rfl) (by kernel_rfl) (fun _ _ _ h => h) (Or.inl ⟨by rfl, ?_⟩) hHeld ?_
    rotate_left
    · intro w hSw; (try dsimp only at hSw); go_simp; (try with_reducible rfl)
    simp only [Act.put, List.setIfInBounds_toArray, List.set_cons_zero, List.set_cons_succ]
    refine wpAnyH_take (i := 15) (oi := (Go.Oper.mk (some 91) (Go.Op.load 24 (Go.Operand.tmp 90)) 24 _ #[Go.Edge.mk 14 Go.Ground.data, Go.Edge.mk 12 Go.Ground.guard] (some (12, true)))) (v := ?_) rfl (by kernel_rfl) (by kernel_rfl) (by kernel_rfl) (fun _ _ _ h => h) (Or.inl ⟨by rfl, ?_⟩) hHeld ?_
    rotate_left
    · intro w hSw; (try dsimp only at hSw); go_simp; (try with_reducible rfl)
    simp only [Act.put, List.setIfInBounds_toArray, List.set_cons_zero, List.set_cons_succ]
    refine wpAnyH_take (i := 16) (oi := (Go.Oper.mk (some 92) (Go.Op.load 24 (Go.Operand.tmp 2)) 24 _ #[Go.Edge.mk 12 Go.Ground.guard] (some (12, true)))) (v := ?_) rfl (by kernel_rfl) (by kernel_rfl) (by kernel_rfl) (fun _ _ _ h => h) (Or.inl ⟨by rfl, ?_⟩) hHeld ?_
    rotate_left
    · intro w hSw; (try dsimp only at hSw); go_simp; (try with_reducible rfl)
    simp only [Act.put, List.setIfInBounds_toArray, List.set_cons_zero, List.set_cons_succ]
    refine wpAnyH_ready (rs := [17]) (by kernel_rfl) (by simp) ?_
    refine (AllReadyH.cons (o := (Go.Oper.mk (some 93) (Go.Op.call (Go.Call.mk (Go.Callee.value (Go.Operand.func 18)) #[Go.Operand.tmp 91, Go.Operand.tmp 92] #[24, 24])) 4 _ #[Go.Edge.mk 15 Go.Ground.data, Go.Edge.mk 16 Go.Ground.data, Go.Edge.mk 12 Go.Ground.chain, Go.Edge.mk 12 Go.Ground.guard] (some (12, true)))) rfl (fun K hK => ?_) AllReadyH.nil)
    · skip
      go_simp
      (with_reducible refine (HS.out _ _ _ _ _ (L7.out.later hHeld.1) (HL.out.later (B7.out.trans (hHeld.1.mono B7.out.size)))).mono ?_); rintro e wx ⟨rfl, bx⟩
      go_wp2_with fail
      refine hK.out _ _ ?_ (fun hHeld => ?_)
      · refine (fun h => And.intro h (KC.out _ h)) ?_; first | assumption | exact Below.refl _ _ | exact (Below.refl _ _).drew | exact hHeld.1.trans (bx.mono hHeld.1.size) | exact hHeld.1.trans ((bx.mono hHeld.1.size).drew) | exact Below.drew ‹_›
      clear hK K
      (try simp only [Act.put, List.setIfInBounds_toArray, List.set_cons_zero, List.set_cons_succ])
      refine wpAnyH_take (i := 18) (oi := (Go.Oper.mk (some 94) (Go.Op.pick (Go.Operand.tmp 88) (Go.Operand.tmp 93) (Go.Operand.const (Go.Value.bool false))) 4 _ #[Go.Edge.mk 12 Go.Ground.data, Go.Edge.mk 17 Go.Ground.data] none)) (v := ?_) rfl (by kernel_rfl) (by kernel_rfl) (by kernel_rfl) (fun _ _ _ h => h) (Or.inl ⟨by rfl, ?_⟩) hHeld ?_
      rotate_left
      · intro w hSw; (try dsimp only at hSw); go_simp; (try with_reducible rfl)
      simp only [Act.put, List.setIfInBounds_toArray, List.set_cons_zero, List.set_cons_succ]
      refine wpAnyH_take (i := 19) (oi := (Go.Oper.mk (some 4) (Go.Op.assign (Go.Operand.tmp 94)) 4 _ #[Go.Edge.mk 18 Go.Ground.data, Go.Edge.mk 17 Go.Ground.chain, Go.Edge.mk 0 Go.Ground.phase, Go.Edge.mk 1 Go.Ground.phase, Go.Edge.mk 2 Go.Ground.phase, Go.Edge.mk 3 Go.Ground.phase, Go.Edge.mk 4 Go.Ground.phase, Go.Edge.mk 5 Go.Ground.phase, Go.Edge.mk 6 Go.Ground.phase, Go.Edge.mk 7 Go.Ground.phase, Go.Edge.mk 8 Go.Ground.phase, Go.Edge.mk 9 Go.Ground.phase, Go.Edge.mk 10 Go.Ground.phase, Go.Edge.mk 11 Go.Ground.phase, Go.Edge.mk 12 Go.Ground.phase, Go.Edge.mk 13 Go.Ground.phase, Go.Edge.mk 14 Go.Ground.phase, Go.Edge.mk 15 Go.Ground.phase, Go.Edge.mk 16 Go.Ground.phase, Go.Edge.mk 17 Go.Ground.phase, Go.Edge.mk 18 Go.Ground.phase] none)) (v := ?_) rfl (by kernel_rfl) (by kernel_rfl) (by kernel_rfl) (fun _ _ _ h => h) (Or.inl ⟨by rfl, ?_⟩) hHeld ?_
      rotate_left
      · intro w hSw; (try dsimp only at hSw); go_simp; (try with_reducible rfl)
      simp only [Act.put, List.setIfInBounds_toArray, List.set_cons_zero, List.set_cons_succ]
      refine wpAnyH_done (by kernel_rfl) ?_ _
      go_wp2
      go_ret
      exact ⟨by simp, B7.out.trans (hHeld.1.mono B7.out.size)⟩
end Go.Proofs.YtpngmbdchceikaaDoor
