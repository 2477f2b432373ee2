/- The walk of AofTwice, where the life is of bulk at most 1048576. -/
import Derived.Test.YtfbjmhipjfjaeaaGreatDoorM27
import Derived.Test.YtfbjmhipjfjaeaaGreatDoorM35
namespace Go.Proofs.YtfbjmhipjfjaeaaGreatDoor
open Go.ChangeShapes Go.WideShapes Go.ChangeAt Go.RowKit Go.Maps Pl
set_option linter.unusedVariables false
set_option linter.unusedSimpArgs false
section
variable {a : Addr}
set_option maxRecDepth 100000 in
set_option maxHeartbeats 16000000 in
theorem aofTwice_walk (v : Value) (x : Lf) (hx : x.wt ≤ 1048576) (w : World) (hv : LfV w v x) (hs : Sent w a) (h3 : 3 ≤ w.heap.size) :
    Calls Tryz.prog 5 #[v] w fun e w' => e = .returned (.bool true) ∧ Below w.heap.size w w' := by
  obtain ⟨pol, every, faults, os, k, bytes, calm⟩ := x
  obtain ⟨fv, sv, bv, rfl, hqr, hor, hir, hev⟩ := hv
  simp only at hqr hor hir hev
  have hwt : 8 + faults.length + bytes.length + opW os ≤ 1048576 := hx
  have how := opW_wtO os
  have hol := wtO_len os
  clear hx
  obtain ⟨fa, fc, rfl⟩ := hqr.shape
  obtain ⟨sa, sc, rfl⟩ := hor.shape
  obtain ⟨ba, bc, rfl⟩ := hir.shape
  have HSure := Lib.hid (fun W (hb : Below w.heap.size w W) => sure_any (hs.kept (K := fun _ => False) (Wr.of_below hb) (by omega) (fun _ _ h => h)) (Nat.le_trans h3 hb.size))
  have HSent := Lib.hid (fun W (hb : Below w.heap.size w W) => And.intro (hs.kept (K := fun _ => False) (Wr.of_below hb) (by omega) (fun _ _ h => h)) (Nat.le_trans h3 hb.size))
  obtain ⟨xv, hxv⟩ : ∃ xv : Array Value, xv = #[.int .i64 pol, .int .i64 every, .slice fa faults.length fc, .slice sa os.length sc, .int .i64 k, .slice ba bytes.length bc, .bool calm] := ⟨_, rfl⟩
  obtain ⟨w1, hw1⟩ : ∃ w1, w1 = w.alloc (.cells #[.int .i64 pol, .int .i64 every, .slice fa faults.length fc, .slice sa os.length sc, .int .i64 k, .slice ba bytes.length bc, .bool calm] 58) := ⟨_, rfl⟩
  have b1 : Below w.heap.size w w1 := by rw [hw1]; exact (Below.refl _ _).alloc (Nat.le_refl _) _
  have hbx : w1.heap[w.heap.size]? = some (.cells xv 58 (0, 0)) := by rw [hw1, hxv]; exact alloc_here _ _
  have hbl : w.heap.size < w1.heap.size := (Array.getElem?_eq_some_iff.1 hbx).1
  have B1 := Lib.hid b1
  have HX := Lib.hid (show ∀ W, Below w1.heap.size w1 W → W.cell? ⟨w.heap.size, 0, none⟩ = some (.int .i64 pol) ∧ W.cell? ⟨w.heap.size, 1, none⟩ = some (.int .i64 every) ∧ W.cell? ⟨w.heap.size, 2, none⟩ = some (.slice fa faults.length fc) ∧ W.cell? ⟨w.heap.size, 3, none⟩ = some (.slice sa os.length sc) ∧ W.cell? ⟨w.heap.size, 4, none⟩ = some (.int .i64 k) ∧ W.cell? ⟨w.heap.size, 5, none⟩ = some (.slice ba bytes.length bc) from fun W hW => by
    have h := (hW.block w.heap.size hbl).trans hbx
    subst hxv
    refine ⟨?_, ?_, ?_, ?_, ?_, ?_⟩ <;> simp [World.cell?, h])
  have HQ := Lib.hid (hqr.below b1)
  have HO := Lib.hid (hor.below b1)
  have HI : Hid (IRow w1 (fun g => g < w1.heap.size) (.slice ba bytes.length bc) bytes) := Lib.hid (by
    obtain ⟨ao, cp, e, h⟩ := irow_from hir b1
    exact ⟨ao, cp, e, h.imp id fun ⟨g, off, q1, q2, q3⟩ => ⟨g, off, q1, q3.1, q3⟩⟩)
  have h13 : 3 ≤ w1.heap.size := by omega
  obtain ⟨c0, c1, c2, c3, -, -⟩ := HX.out w1 (Below.refl _ _)
  have HFit := Lib.hid (fun W => fit_any pol every W)
  clear hqr hor hir hs h3 b1 hbx hxv
  cases hp : polOk pol every with
  | false =>
    rw [hp] at HFit
    go_enter Tryz.func5, Tryz.ntmps5
    go_wp2_with fail
    rw [← hw1]
    clear hw1
    go_wp2_with fail
    refine (HFit.out _).mono ?_
    rintro e w2 ⟨rfl, hq⟩
    obtain rfl := hq.symm
    clear hq
    go_wp2_with fail
    refine (HSure.out _ B1.out).mono ?_
    rintro e w3 ⟨rfl, b3⟩
    go_wp2
    go_ret
    exact ⟨rfl, B1.out.trans (b3.mono B1.out.size)⟩
  | true =>
    rw [hp] at HFit
    have HPol := Lib.hid hp
    have hev0 : 0 ≤ every := by
      unfold polOk at hp
      split at hp
      · have := of_decide_eq_true hp; omega
      · split at hp
        · have := of_decide_eq_true hp; omega
        · cases hp
    have HBo := Lib.hid (bodies_any (.slice sa os.length sc) os (by omega) w1 HO.out)
    clear hp
    go_enter Tryz.func5, Tryz.ntmps5
    go_wp2_with fail
    rw [← hw1]
    clear hw1
    go_wp2_with fail
    refine (HFit.out _).mono ?_
    rintro e w2 ⟨rfl, hq⟩
    obtain rfl := hq.symm
    clear hq
    go_wp2_with fail
    refine HBo.out.mono ?_
    rintro e w3 ⟨tv, rfl, tx3, b3⟩
    have HLong := Lib.hid (long_any tv ((os.map Oq.body).map str) (by rw [bulkS_bodies]; omega) w3 tx3.tat.srow)
    have B3 := Lib.hid b3
    clear tx3 b3 c0 c1 c2 c3
    go_wp2_with fail
    refine HLong.out.mono ?_
    rintro e w4 ⟨rfl, rfl⟩
    obtain ⟨se1, se2⟩ := HSent.out w4 (B1.out.trans (B3.out.mono (by omega)))
    have HNew := Lib.hid (new_dw se1 se2)
    clear se1
    go_wp2_with fail
    refine HNew.out.mono ?_
    rintro e w5 ⟨b, rfl, dw5, b5⟩
    have DW5 : Hid (DW (fun k => w1.heap.size ≤ k) w5 b a Dk.new) := Lib.hid (DW.since dw5 (fun k hk => Nat.le_trans B3.out.size hk) h13)
    have B5 := Lib.hid (B3.out.trans (b5.mono B3.out.size))
    obtain ⟨c0, c1, -⟩ := HX.out w5 B5.out
    clear dw5 b5
    go_wp2_with fail
    refine (open_any DW5.out Dk.Inv.new Dk.Small.new (by decide) HPol.out (by rw [su_clean0]) su_open0 rfl).mono ?_
    rintro e w6 he
    obtain ⟨l, bv6, base, P6, rfl, lw6, k6, b6, tx6, hb6, hl6⟩ := he.belowOf (B := w1.heap.size) (fun k hk => hk) B5.out.size
    have B6 := Lib.hid (B5.out.trans b6)
    have LW6 := Lib.hid lw6
    clear he b6 lw6 tx6 hb6 c0 c1
    go_upto_region 7 with fail
    have b7 := B6.out.alloc B6.out.size (.cells #[.int .i64 0, .int .i64 16, .int .i64 0, .int .u64 0] 26)
    have lw7 := LW6.out.below ((Below.refl _ _).alloc (Nat.le_refl _) (.cells #[.int .i64 0, .int .i64 16, .int .i64 0, .int .u64 0] 26))
    generalize w6.alloc (.cells #[.int .i64 0, .int .i64 16, .int .i64 0, .int .u64 0] 26) = w7 at *
    go_cut [3] from 48 to 54 (fun v wx => v = .pointer (some ⟨b, 0, none⟩) ∧ Hid (∃ q w8, Below w7.heap.size w7 w8 ∧ LgEnd P6 w8 l b a ((su4 (headT 1)).planS q) ⟨pol, every, 0, 0, 16, false, false⟩ wx))
    case first =>
      have LWd := Lib.hid (lw7.below (Below.refl _ _).drew)
      have hxd := (HX.out w7 b7).2.2.1
      have hxl : w.heap.size < w7.heap.size := Nat.lt_of_lt_of_le hbl b7.size
      have hqd := HQ.out.below (b7.trans ((show Below w7.heap.size w7 w7.drew from (Below.refl _ _).drew).mono b7.size))
      have hbd : Below w7.heap.size w7 w7.drew := (Below.refl _ _).drew
      have hxd : w7.drew.cell? ⟨w.heap.size, 2, none⟩ = some (.slice fa faults.length fc) := hxd
      have hzd : w.heap.size < w7.drew.heap.size := hxl
      clear lw7 b7
      generalize hwd : w7.drew = wd at *
      have hwd := Lib.hid hwd
      have HXD := Lib.hid hxd
      have HBD := Lib.hid hbd
      have HSt := Lib.hid LWd.out.stepsC
      have HKB := Lib.hid (show ∀ k, k = w.heap.size → ¬ (P6 k ∨ k = l) from fun k hk hx => hx.elim (fun h => by have := k6 k h; omega) (fun h => by omega))
      have HLa := Lib.hid (later_any (.slice fa faults.length fc) faults 4 (by omega) wd hqd)
      clear hxd hbd hqd
      refine wp_region_held_drew (S := (fun W => W.cell? ⟨w.heap.size, 2, none⟩ = some (.slice fa faults.length fc) ∧ w.heap.size < W.heap.size)) (by kernel_rfl) ?_ (fun hHeld => ?_)
      · rw [hwd.out]; exact ⟨HXD.out, hzd⟩
      refine wpAnyH_take (i := 0) (oi := (Go.Oper.mk (some 48) (Go.Op.move (Go.Operand.tmp 3)) 45 _ #[] none)) (v := ?_) rfl (by kernel_rfl) (by kernel_rfl) (by kernel_rfl) (fun _ _ _ h => h) (Or.inl ⟨by rfl, ?_⟩) hHeld ?_
      rotate_left
      · intro w hSw; (try dsimp only at hSw); go_simp; (try with_reducible rfl)
      simp only [Act.put, List.setIfInBounds_toArray, List.set_cons_zero, List.set_cons_succ]
      refine wpAnyH_take (i := 1) (oi := (Go.Oper.mk (some 49) (Go.Op.fieldAddr 58 (Go.Operand.tmp 1) 2) 0 _ #[] none)) (v := ?_) rfl (by kernel_rfl) (by kernel_rfl) (by kernel_rfl) (fun _ _ _ h => h) (Or.inl ⟨by rfl, ?_⟩) hHeld ?_
      rotate_left
      · intro w hSw; (try dsimp only at hSw); go_simp; (try with_reducible rfl)
      simp only [Act.put, List.setIfInBounds_toArray, List.set_cons_zero, List.set_cons_succ]
      refine wpAnyH_take (i := 2) (oi := (Go.Oper.mk (some 50) (Go.Op.load 53 (Go.Operand.tmp 49)) 53 _ #[Go.Edge.mk 1 Go.Ground.data] none)) (v := ?_) rfl (by kernel_rfl) (by kernel_rfl) (by kernel_rfl) (fun _ _ _ h => h) (Or.inl ⟨by rfl, ?_⟩) hHeld ?_
      rotate_left
      · intro w hSw; (try dsimp only at hSw); go_simp; (try with_reducible rfl)
      simp only [Act.put, List.setIfInBounds_toArray, List.set_cons_zero, List.set_cons_succ]
      refine wpAnyH_take (i := 3) (oi := (Go.Oper.mk (some 51) (Go.Op.move (Go.Operand.tmp 3)) 45 _ #[] none)) (v := ?_) rfl (by kernel_rfl) (by kernel_rfl) (by kernel_rfl) (fun _ _ _ h => h) (Or.inl ⟨by rfl, ?_⟩) hHeld ?_
      rotate_left
      · intro w hSw; (try dsimp only at hSw); go_simp; (try with_reducible rfl)
      simp only [Act.put, List.setIfInBounds_toArray, List.set_cons_zero, List.set_cons_succ]
      refine wpAnyH_ready (rs := [4]) (by kernel_rfl) (by simp) ?_
      refine (AllReadyH.cons (o := (Go.Oper.mk (some 52) (Go.Op.call (Go.Call.mk (Go.Callee.value (Go.Operand.func 29)) #[Go.Operand.tmp 51] #[45])) 3 _ #[Go.Edge.mk 3 Go.Ground.data] none)) rfl (fun K hK => ?_) AllReadyH.nil)
      · skip
        go_simp
        (refine HSt.out.mono ?_); (rintro e wq ⟨rfl, hq⟩); (obtain rfl := hq)
        go_wp2_with fail
        refine hK.out _ _ ?_ (fun hHeld => ?_)
        · exact ⟨HXD.out, hzd⟩
        clear hK K
        (try simp only [Act.put, List.setIfInBounds_toArray, List.set_cons_zero, List.set_cons_succ])
        refine wpAnyH_ready (rs := [5]) (by kernel_rfl) (by simp) ?_
        refine (AllReadyH.cons (o := (Go.Oper.mk (some 53) (Go.Op.call (Go.Call.mk (Go.Callee.value (Go.Operand.func 28)) #[Go.Operand.tmp 50, Go.Operand.tmp 52] #[53, 3])) 53 _ #[Go.Edge.mk 2 Go.Ground.data, Go.Edge.mk 4 Go.Ground.data, Go.Edge.mk 4 Go.Ground.chain] none)) rfl (fun K hK => ?_) AllReadyH.nil)
        · skip
          go_simp
          (refine HLa.out.mono ?_); (rintro e w8 ⟨pv, ql, rfl, hql, hfr, b8⟩); (have HB8 := Lib.hid b8); (have HPl := Lib.hid ((LWd.out.below b8).planC ((su_open0 : Opn _ _ _ _ _ _).small (clean_small Dk.Small.new)) (by decide) pv ql hfr.prow (by omega))); (clear hfr b8)
          go_wp2_with fail
          refine hK.out _ _ ?_ (fun hHeld => ?_)
          · exact ⟨(World.cell?_of_block (HB8.out.block _ hHeld.2)).trans hHeld.1, Nat.lt_of_lt_of_le hHeld.2 HB8.out.size⟩
          clear hK K
          (try simp only [Act.put, List.setIfInBounds_toArray, List.set_cons_zero, List.set_cons_succ])
          refine wpAnyH_ready (rs := [6]) (by kernel_rfl) (by simp) ?_
          refine (AllReadyH.cons (o := (Go.Oper.mk (some 54) (Go.Op.call (Go.Call.mk (Go.Callee.value (Go.Operand.func 27)) #[Go.Operand.tmp 48, Go.Operand.tmp 53] #[45, 53])) 27 _ #[Go.Edge.mk 0 Go.Ground.data, Go.Edge.mk 5 Go.Ground.data, Go.Edge.mk 5 Go.Ground.chain] none)) rfl (fun K hK => ?_) AllReadyH.nil)
          · skip
            go_simp
            (refine HPl.out.mono ?_); (rintro e w9 ⟨rfl, le9⟩); (have HLE := Lib.hid le9); (clear le9)
            go_wp2_with fail
            refine hK.out _ _ ?_ (fun hHeld => ?_)
            · exact ⟨(World.cell?_of_block (HLE.out.far.block _ hHeld.2 (HKB.out _ rfl))).trans hHeld.1, Nat.lt_of_lt_of_le hHeld.2 HLE.out.far.size⟩
            clear hK K
            (try simp only [Act.put, List.setIfInBounds_toArray, List.set_cons_zero, List.set_cons_succ])
            refine wpAnyH_done (by kernel_rfl) ?_ _
            go_wp2_with fail
            go_meet
            refine ⟨rfl, Lib.hid ⟨_, w8, HBD.out.trans (HB8.out.mono HBD.out.size), HLE.out⟩⟩
    case rest =>
      obtain ⟨rfl, hcut⟩ := hcut
      rename World => w9
      obtain ⟨q, w8, b78, le9⟩ := hcut.out
      have b18 := b7.trans (b78.mono b7.size)
      obtain ⟨P9, lw9, k9, b89⟩ := le9.belowOf (B := w1.heap.size) k6 hl6 b18.size
      have B9 := Lib.hid (b18.trans b89)
      have i4 : (su4 (headT 1)).Inv := (su_open0 : Opn _ _ _ _ _ _).inv (clean_inv Dk.Inv.new)
      have s4 : (su4 (headT 1)).Small 6 := (su_open0 : Opn _ _ _ _ _ _).small (clean_small Dk.Small.new)
      have i9 := i4.set q
      have s9 := s4.set q
      obtain ⟨S9, hS9⟩ : ∃ S9, (su4 (headT 1)).planS q = S9 := ⟨_, rfl⟩
      have al9 := (first_alive pol every).plan q
      rw [hS9] at lw9 i9 s9 al9
      have in9 : InL ⟨pol, every, 0, 0, 16, false, false⟩ S9 ⟨pol, every, 0, 0, 16, false, false⟩ [] 33554432 := ⟨al9.inLife i9 rfl, rfl, rfl, by show (0 : Int) ≤ 16; decide, by show (16 : Int) ≤ 33554432; decide, fun _ _ => rfl, Nat.le_refl _⟩
      have st9 : LifeSt (fun _ => False) w1.heap.size P9 w9 l b a (.slice none 0 0) w9 S9 ⟨pol, every, 0, 0, 16, false, false⟩ [] (.slice none 0 0) := LifeSt.start lw9 (World.ownsRow_nil _ _ _ _) (fun k hk => by cases hk) B9.out.size h13
      have HLife := Lib.hid (life_any (w0 := w1) (.slice none 0 0) (.slice sa os.length sc) os B9.out st9 k9 hl6 HO.out in9 s9 (by omega) (by simp only [List.length_nil]; omega) (by simp only [List.map_nil, List.sum_nil]; omega) (Int.le_refl _) (by omega) ⟨hev0, hev⟩)
      obtain ⟨-, -, -, c3, -, -⟩ := HX.out w9 B9.out
      clear b7 lw7 b78 le9 b18 b89 i4 s4 i9 s9 al9 hS9 in9 st9 lw9 hcut
      go_wp2_with fail
      refine HLife.out.mono ?_
      rintro e w10 ⟨S10, L10, all10, v10, rfl, st10, in10, bd10⟩
      have B10 := Lib.hid (st10.reach B9.out k9 hl6 (fun k hk => by cases hk))
      obtain ⟨P10, h10⟩ := st10
      have lw10 := h10.lw
      have k10 : ∀ k, P10 k → w1.heap.size ≤ k := fun k hk => (h10.ps k hk).elim (k9 k) (fun h => Nat.le_trans B9.out.size h)
      have i10 := in10.life.inv
      have s10 := bd10.1
      obtain ⟨g, F, f, bs, m, fo⟩ := in10.life.core.crash k bytes
      have HCr := Lib.hid (lw10.crashC i10 s10 (by omega) k (.slice ba bytes.length bc) bytes (irow_from HI.out B10.out) (fun y hy hp => by have := k10 y hp; omega) (by omega))
      have i11 := i10.crash k bytes
      have s11 := s10.crash k bytes
      obtain ⟨c1, n, R, R2, cut, hn, op1, c2, op2⟩ := fo.twice i11 s11 (by omega)
      obtain ⟨S11, hS11⟩ : ∃ S11, S10.crashS k bytes = S11 := ⟨_, rfl⟩
      rw [hS11] at HCr i11 s11 c1 op1
      obtain ⟨ts, hts⟩ : ∃ ts, bs.take n = ts := ⟨_, rfl⟩
      obtain ⟨sz, hsz⟩ : ∃ sz, atF f bs n = sz := ⟨_, rfl⟩
      obtain ⟨la, hla⟩ : ∃ la, f - 1 + n = la := ⟨_, rfl⟩
      have hnl10 : ts.length ≤ 1048576 := by
        have q1 := fo.ok.high
        have q2 := bd10.2.1
        rw [← hts, List.length_take]
        simp only [List.length_nil] at q2
        omega
      rw [hts, hsz, hla] at op1 op2
      have iR := op1.inv (clean_inv i11)
      have sR := op1.small (clean_small s11)
      have IS := Lib.hid (And.intro (And.intro i11 s11) (And.intro iR sR))
      have OP := Lib.hid (And.intro (And.intro c1 op1) (And.intro c2 op2))
      obtain ⟨-, -, -, -, c4, c5⟩ := HX.out w10 B10.out
      clear lw10 h10 in10 bd10 i10 s10 fo i11 s11 c1 op1 c2 op2 iR sR hS11 hts hsz hla c3 hn
      go_wp2_with fail
      refine HCr.out.mono ?_
      rintro e w11 ⟨rfl, le11⟩
      obtain ⟨P11, lw11, k11, b11⟩ := le11.belowOf (B := w1.heap.size) k10 hl6 B10.out.size
      have B11 := Lib.hid (B10.out.trans b11)
      have LW11 := Lib.hid lw11
      obtain ⟨c0, c1, -⟩ := HX.out w11 B11.out
      clear le11 lw11 b11 c4 c5
      go_wp2_with fail
      refine (open_any LW11.out.dw IS.out.1.1 IS.out.1.2 (by omega) HPol.out OP.out.1.1 OP.out.1.2 rfl).mono ?_
      rintro e w12 he
      obtain ⟨l12, bv12, base12, P12, rfl, lw12, k12, b12, tx12, -, hl12⟩ := he.belowOf (B := w1.heap.size) k11 B11.out.size
      clear he c0 c1
      go_upto_region 13 with fail
      obtain ⟨nt, hnt⟩ : ∃ nt, ts.length = nt := ⟨_, rfl⟩
      have hb12 := B11.out.trans b12
      have HST12 := Lib.hid (fun k (hk : bv12.ownBlock = some k) => tx12.str hk)
      have HK12 := Lib.hid k12
      have lw12 := lw12.narrow.bounded
      have b13 := hb12.alloc hb12.size (.cells #[.int .i64 nt, .int .i64 sz, .int .i64 cut, .int .u64 la] 26)
      have lw13 := lw12.below ((Below.refl _ _).alloc (Nat.le_refl _) (.cells #[.int .i64 nt, .int .i64 sz, .int .i64 cut, .int .u64 la] 26))
      have tx13 := tx12.below ((Below.refl _ _).alloc (Nat.le_refl _) (.cells #[.int .i64 nt, .int .i64 sz, .int .i64 cut, .int .u64 la] 26))
      have hf13 := alloc_here w12 (.cells #[.int .i64 nt, .int .i64 sz, .int .i64 cut, .int .u64 la] 26)
      rw [hnt]
      generalize w12.alloc (.cells #[.int .i64 nt, .int .i64 sz, .int .i64 cut, .int .u64 la] 26) = w13 at *
      have B13 := Lib.hid b13
      have LW13 := Lib.hid lw13
      have TX13 := Lib.hid tx13
      have HF13 := Lib.hid (And.intro (Array.getElem?_eq_some_iff.1 hf13).1 hf13)
      have HNL := Lib.hid (show nt ≤ 4194304 from by rw [← hnt]; omega)
      have HNT := Lib.hid hnt
      obtain ⟨c0, c1, -⟩ := HX.out w13 B13.out
      clear hb12 b12 b13 lw12 lw13 tx12 tx13 hf13 hnt
      go_wp2_with fail
      refine (open_any LW13.out.dw IS.out.2.1 IS.out.2.2 (by omega) HPol.out OP.out.2.1 OP.out.2.2 rfl).mono ?_
      rintro e w14 he
      obtain ⟨l14, bv14, base14, P14, rfl, lw14, k14, r14, tx14, -, -⟩ := he
      have hb14 := B13.out.trans (r14.below (fun k hk => HK12.out k hk.1.1) B13.out.size)
      have tx14' := TX13.out.beside r14 (fun k hk hx => hx.1.2 (HST12.out k hk))
      have hf14 := (r14.block w12.heap.size HF13.out.1 (fun hx => Nat.lt_irrefl _ hx.2)).trans HF13.out.2
      clear lw14 k14 r14 c0 c1
      go_upto_region 14 with fail
      rw [HNT.out]
      have b15 := hb14.alloc hb14.size (.cells #[.int .i64 nt, .int .i64 sz, .int .i64 0, .int .u64 la] 26)
      have tx15 := tx14.below ((Below.refl _ _).alloc (Nat.le_refl _) (.cells #[.int .i64 nt, .int .i64 sz, .int .i64 0, .int .u64 la] 26))
      have tx15' := tx14'.below ((Below.refl _ _).alloc (Nat.le_refl _) (.cells #[.int .i64 nt, .int .i64 sz, .int .i64 0, .int .u64 la] 26))
      have hf15 := alloc_here w14 (.cells #[.int .i64 nt, .int .i64 sz, .int .i64 0, .int .u64 la] 26)
      have hf15' := (((Below.refl w14.heap.size w14).alloc (Nat.le_refl _) (.cells #[.int .i64 nt, .int .i64 sz, .int .i64 0, .int .u64 la] 26)).block w12.heap.size (Array.getElem?_eq_some_iff.1 hf14).1).trans hf14
      generalize w14.alloc (.cells #[.int .i64 nt, .int .i64 sz, .int .i64 0, .int .u64 la] 26) = w15 at *
      have HSame := Lib.hid (same_texts bv12 bv14 ts (by rw [HNT.out]; have := HNL.out; omega) w15 tx15'.tat tx15.tat)
      have B15 := Lib.hid b15
      have hl15 := (Array.getElem?_eq_some_iff.1 hf15).1
      have hl15' := (Array.getElem?_eq_some_iff.1 hf15').1
      have HF15 := Lib.hid hf15
      have HF15' := Lib.hid hf15'
      clear hb14 b15 tx14 tx14' tx15 tx15' hf14 hf15 hf15'
      go_wp2_with fail
      refine HSame.out.mono ?_
      rintro e w16 ⟨rfl, b16⟩
      have g1 := (b16.block _ hl15).trans HF15.out
      have g2 := (b16.block _ hl15').trans HF15'.out
      have B16 := Lib.hid (B1.out.trans ((B15.out.trans (b16.mono B15.out.size)).mono B1.out.size))
      have p0 : w16.cell? ⟨w12.heap.size, 0, none⟩ = some (.int .i64 nt) := by simp [World.cell?, g2]
      have p1 : w16.cell? ⟨w12.heap.size, 1, none⟩ = some (.int .i64 sz) := by simp [World.cell?, g2]
      have p3 : w16.cell? ⟨w12.heap.size, 3, none⟩ = some (.int .u64 la) := by simp [World.cell?, g2]
      have q0 : w16.cell? ⟨w14.heap.size, 0, none⟩ = some (.int .i64 nt) := by simp [World.cell?, g1]
      have q1 : w16.cell? ⟨w14.heap.size, 1, none⟩ = some (.int .i64 sz) := by simp [World.cell?, g1]
      have q2 : w16.cell? ⟨w14.heap.size, 2, none⟩ = some (.int .i64 0) := by simp [World.cell?, g1]
      have q3 : w16.cell? ⟨w14.heap.size, 3, none⟩ = some (.int .u64 la) := by simp [World.cell?, g1]
      clear b16 g1 g2
      go_wp2_with fail
      refine (HSure.out _ B16.out).mono ?_
      rintro e w17 ⟨rfl, b17⟩
      go_wp2
      go_ret
      exact ⟨rfl, B16.out.trans (b17.mono B16.out.size)⟩
end
end Go.Proofs.YtfbjmhipjfjaeaaGreatDoor
