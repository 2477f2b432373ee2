/- aof: read of a beginning of a head. -/
import Derived.Test.YtfbjmhipjfjaeaaGreatDoorM23
namespace Go.Proofs.YtfbjmhipjfjaeaaGreatDoor
open Go.ChangeShapes Go.WideShapes Go.ChangeAt Go.RowKit Go.Maps Pl
set_option linter.unusedVariables false
set_option linter.unusedSimpArgs false
section
variable {P : Nat → Prop} {w : World} {l b : Nat} {a : Addr} {j : Nat} {S : Dk} {L : Lg}
theorem ErrIs.loose {P : Nat → Prop} {w0 w : World} {c : Int} {v : Value} (h : ErrIs P w0 w c v) : ErrIs (fun _ => False) w0 w c v := by
  rcases h with h | ⟨a1, f1, a2, a3, a4, a5, _⟩
  · exact .inl h
  · exact .inr ⟨a1, f1, a2, a3, a4, a5, fun h => h⟩
theorem RdEnd.unbound {r : Dk × Int} {bs : List Tx} {c : Int} {e : Ending} {w' : World} (h : RdEnd (fun k => P k ∧ k < w.heap.size) w l b a r L bs c e w') : RdEnd P w l b a r L bs c e w' := by
  obtain ⟨bv, ev, base, he, hl, hr⟩ := h
  exact ⟨bv, ev, base, he, hl.unbound, hr⟩
theorem read_long {f pos : Nat} {bs : List Tx} {s x : Tx} {torn : Bool} (h : LW P w l b a S L) (hI : S.Inv) (hS : S.Small j) (hj : j ≤ 4194000) (ha : S.askE logN = 0) (hs : S.readT logN = s) (hx : LogTx s f bs x pos torn) :
    Calls Tryz.prog 40 #[.pointer (some ⟨l, 0, none⟩)] w (RdEnd P w l b a (rdLong S s.length pos torn) { L with size := ((16 + pos : Nat) : Int), last := f - 1 + bs.length } bs ((x.length : Int) - pos)) :=
  (read_long0 h.bounded (fun k hk => hk.2) hI hS hj ha hs hx).mono fun e w' he => he.unbound
/-- What read does with a beginning of a head. -/
def Pl.rdShort (S : Dk) : Dk × Int := goL [.trunc logN 0, .append logN (headT 1), .sync logN, .names] S
set_option maxRecDepth 100000 in
set_option maxHeartbeats 8000000 in
theorem read_short0 {s : Tx} (h : LW P w l b a S L) (hPb : ∀ k, P k → k < w.heap.size) (hI : S.Inv) (hS : S.Small j) (hj : j ≤ 4194000) (ha : S.askE logN = 0) (hs : S.readT logN = s) (hl : s.length < 16) (hp : (headT 1).take s.length = s) :
    Calls Tryz.prog 40 #[.pointer (some ⟨l, 0, none⟩)] w (RdEnd P w l b a (rdShort S) L [] s.length) := by
  have h0 : w.cell? ⟨l, 0, none⟩ = some (.pointer (some ⟨b, 0, none⟩)) := h.log.cell 0
  have hlt := h.log.lt
  have h16 : (((str s).size : Int) < 16) := by rw [str_size]; omega
  have hh1 : (headS 1).size = 16 := headS_size (by decide)
  have hle : ((str s).size : Int) ≤ ((headS 1).size : Int) := by rw [hh1, str_size]; omega
  have hle2 : (str s).size ≤ (headS 1).size := by rw [hh1, str_size]; omega
  have hex : (headS 1).extract 0 (str s).size = str s := by
    apply ba_ext
    rw [Lib.extract_data, headS_is, str_toList, str_toList, str_size, List.drop_zero, Nat.sub_zero]
    exact hp
  have hHd : headS 1 = str (headT 1) := headS_is 1
  have HRd := Lib.hid fun W (hW : LW P W l b a S L) => hW.readC hI
  rw [ha, hs] at HRd
  have HW := Lib.hid h
  have HI := Lib.hid hI
  have HS := Lib.hid hS
  have HH := Lib.hid fun W => head_any 1 W (by omega)
  obtain ⟨R, hR⟩ : ∃ R, rdShort S = R := ⟨_, rfl⟩
  rw [hR]
  have HR := Lib.hid hR
  obtain ⟨ct, hct⟩ : ∃ ct : Int, (s.length : Int) = ct := ⟨_, rfl⟩
  rw [hct]
  have hct2 : ((str s).size : Int) = ct := by rw [str_size]; exact hct
  have HCT := Lib.hid hct2
  have HHD := Lib.hid hHd
  clear h hI hS hR hct hct2 hHd
  go_enter Tryz.func40, Tryz.ntmps40
  go_wp2_with fail
  refine (HRd.out _ (HW.out.below (((Below.refl w.heap.size w).alloc (Nat.le_refl _) _).alloc (by simp) _))).mono ?_
  rintro e w1 ⟨rfl, hw1⟩
  have B1 := Lib.hid (show Below w.heap.size w w1 by rw [← hw1]; exact ((Below.refl w.heap.size w).alloc (Nat.le_refl _) _).alloc (by simp) _)
  have BX1 := Lib.hid (show RdBox w.heap.size l b w1 by rw [← hw1]; exact RdBox.start _ _)
  clear hw1
  go_wp2_with fail
  refine (HH.out _).mono ?_
  rintro e w2 ⟨rfl, b2⟩
  have B2 := Lib.hid (B1.out.trans (b2.mono B1.out.size))
  have BX2 := Lib.hid (BX1.out.below b2)
  clear b2
  go_upto_region 7 with fail
  have LW2 := Lib.hid ((HW.out.below B2.out).below ((Below.refl _ _).drew))
  have BZ := Lib.hid (show RdBox w.heap.size l b w2.drew from BX2.out.below ((Below.refl _ _).drew))
  have hsz2 : w.heap.size ≤ w2.drew.heap.size := B2.out.size
  have hP2 : ∀ k, w.heap.size ≤ k → ¬ (P k ∧ k < w2.drew.heap.size) := fun k hk h => by have := hPb k h.1; omega
  have hbz := BZ.out.2.2
  have BD := Lib.hid (B2.out.trans ((show Below w2.heap.size w2 w2.drew from (Below.refl _ _).drew).mono B2.out.size))
  have BX2' := BX2.out.2.1
  clear BX1 B1
  generalize hwd : w2.drew = wd at *
  have hwd := Lib.hid hwd
  have HBK := Lib.hid (show ∀ W, RdBox w.heap.size l b W → RdBox w.heap.size l b W ∧ W.cell? ⟨w.heap.size + 1, 0, none⟩ = some (.pointer (some ⟨b, 0, none⟩)) from fun W h => ⟨h, h.2.1⟩)
  have HEA := Lib.hid (show ∀ (wa wb : World) (p q r p2 cp : Nat) (W : World), (Bx wa p (.pointer (some ⟨b, 0, none⟩)) ∧ Bx wa q (.string (str logN)) ∧ Bx wa r (.string (headS 1)) ∧ (wd.heap.size ≤ p ∧ p < wa.heap.size) ∧ (wd.heap.size ≤ q ∧ q < wa.heap.size) ∧ (wd.heap.size ≤ r ∧ r < wa.heap.size) ∧ Below wd.heap.size wd wa) →
      (Bx wb p2 (.pointer (some ⟨b, 0, none⟩)) ∧ (wa.heap.size ≤ p2 ∧ p2 < wb.heap.size) ∧ Below wa.heap.size wa wb) →
      W = wb.alloc (.cells #[.func (.func 67) #[] #[.pointer (some ⟨w.heap.size + 1, 0, none⟩)], .func (.func 73) #[] #[.pointer (some ⟨p, 0, none⟩), .pointer (some ⟨q, 0, none⟩), .pointer (some ⟨r, 0, none⟩)], .func (.func 75) #[] #[.pointer (some ⟨p2, 0, none⟩)], .func (.func 39) #[.pointer (some ⟨b, 0, none⟩)] #[]] 32) →
      Calls Tryz.prog 36 #[.slice (some ⟨wb.heap.size, 0, none⟩) 4 cp] W (fun e w' => ∃ v P', e = .returned v ∧ LW P' w' l b a (rdShort S).1 L ∧ (∀ k, P' k → P k ∨ wd.heap.size ≤ k) ∧ Wr (fun k => P k ∨ k = l) wd w' ∧ ErrIs P' wd w' (rdShort S).2 v ∧ Wr (fun k => P k ∧ k < wd.heap.size) W w') from by
    intro wa wb p q r p2 cp W hA hB hW
    obtain ⟨hp, hq, hr, hpl, hql, hrl, ba⟩ := hA
    obtain ⟨hp2, hpl2, bb⟩ := hB
    subst hW
    have h1 := ba.size
    have h2 := bb.size
    have bab := ba.trans (bb.mono ba.size)
    have hup : ∀ (k : Nat) (o : Obj), k < wb.heap.size → k < (wb.alloc o).heap.size := fun k o hk => by simp; omega
    have mv : ∀ {k : Nat} {v : Value} {o : Obj}, Bx wa k v → k < wa.heap.size → Bx (wb.alloc o) k v := fun {k v o} h hk => (World.cell?_alloc_past _ _ _ (show k < wb.heap.size by omega)).trans ((World.cell?_of_block (bb.block k hk)).trans h)
    have hbx : Bx wa (w.heap.size + 1) (.pointer (some ⟨b, 0, none⟩)) := (World.cell?_of_block (ba.block (w.heap.size + 1) (by omega))).trans BZ.out.2.1
    exact LW2.out.each2 (n := 4) (xs := [.trunc logN 0, .append logN (headT 1), .sync logN, .names]) (vs := [_, _, _, _])
      (bab.alloc bab.size _) HI.out HS.out (by omega) (by omega) (alloc_here _ _) bab.size rfl rfl
      (steps_of4 (step_rd1 (mv hbx (by omega)) (hup _ _ (by omega)) (hP2 _ (by omega)))
        (step_append logN_len (Nat.le_trans (headT_le 1) (by decide)) (mv hp hpl.2) (mv hq hql.2) (mv (by rw [HHD.out] at hr; exact hr) hrl.2) ⟨hup _ _ (by omega), hP2 _ (by omega)⟩ ⟨hup _ _ (by omega), hP2 _ (by omega)⟩ ⟨hup _ _ (by omega), hP2 _ (by omega)⟩)
        (step_sync ((World.cell?_alloc_past _ _ _ hpl2.2).trans hp2) (hup _ _ hpl2.2) (hP2 _ (by omega)))
        (step_names b)))
  rw [HR.out] at HEA
  have hct := HCT.out
  refine wp_region_held_drew (S := (fun W => RdBox w.heap.size l b W ∧ W.cell? ⟨w.heap.size + 1, 0, none⟩ = some (.pointer (some ⟨b, 0, none⟩)))) (by kernel_rfl) ?_ (fun hHeld => ?_)
  · rw [hwd.out]; exact HBK.out _ BZ.out
  refine wpAnyH_take (i := 0) (oi := (Go.Oper.mk (some 43) (Go.Op.move (Go.Operand.tmp 6)) 9 _ #[] none)) (v := ?_) rfl (by kernel_rfl) (by kernel_rfl) (by kernel_rfl) (fun _ _ _ h => h) (Or.inl ⟨by rfl, ?_⟩) hHeld ?_
  rotate_left
  · intro w hSw; (try dsimp only at hSw); go_simp; (try with_reducible rfl)
  simp only [Act.put, List.setIfInBounds_toArray, List.set_cons_zero, List.set_cons_succ]
  refine wpAnyH_take (i := 1) (oi := (Go.Oper.mk (some 44) (Go.Op.call (Go.Call.mk (Go.Callee.builtin Go.Builtin.len) #[Go.Operand.tmp 43] #[9])) 3 _ #[Go.Edge.mk 0 Go.Ground.data] none)) (v := ?_) rfl (by kernel_rfl) (by kernel_rfl) (by kernel_rfl) (fun _ _ _ h => h) (Or.inl ⟨by rfl, ?_⟩) hHeld ?_
  rotate_left
  · intro w hSw; (try dsimp only at hSw); go_simp; (try with_reducible rfl)
  simp only [Act.put, List.setIfInBounds_toArray, List.set_cons_zero, List.set_cons_succ]
  refine wpAnyH_take (i := 2) (oi := (Go.Oper.mk (some 45) (Go.Op.makeFunc (Go.Fn.func 67) #[] #[Go.Operand.tmp 5]) 32 _ #[] none)) (v := ?_) rfl (by kernel_rfl) (by kernel_rfl) (by kernel_rfl) (fun _ _ _ h => h) (Or.inl ⟨by rfl, ?_⟩) hHeld ?_
  rotate_left
  · intro w hSw; (try dsimp only at hSw); go_simp; (try with_reducible rfl)
  simp only [Act.put, List.setIfInBounds_toArray, List.set_cons_zero, List.set_cons_succ]
  refine wpAnyH_take (i := 3) (oi := (Go.Oper.mk (some 46) (Go.Op.load 45 (Go.Operand.tmp 5)) 45 _ #[] none)) (v := ?_) rfl (by kernel_rfl) (by kernel_rfl) (by kernel_rfl) (fun _ _ _ h => h) (Or.inl ⟨by rfl, ?_⟩) hHeld ?_
  rotate_left
  · intro w hSw; (try dsimp only at hSw); go_simp; (try with_reducible rfl)
  simp only [Act.put, List.setIfInBounds_toArray, List.set_cons_zero, List.set_cons_succ]
  refine wpAnyH_take (i := 4) (oi := (Go.Oper.mk (some 47) (Go.Op.move (Go.Operand.tmp 8)) 9 _ #[] none)) (v := ?_) rfl (by kernel_rfl) (by kernel_rfl) (by kernel_rfl) (fun _ _ _ h => h) (Or.inl ⟨by rfl, ?_⟩) hHeld ?_
  rotate_left
  · intro w hSw; (try dsimp only at hSw); go_simp; (try with_reducible rfl)
  simp only [Act.put, List.setIfInBounds_toArray, List.set_cons_zero, List.set_cons_succ]
  refine wpAnyH_take (i := 6) (oi := (Go.Oper.mk (some 49) (Go.Op.load 45 (Go.Operand.tmp 5)) 45 _ #[] none)) (v := ?_) rfl (by kernel_rfl) (by kernel_rfl) (by kernel_rfl) (fun _ _ _ h => h) (Or.inl ⟨by rfl, ?_⟩) hHeld ?_
  rotate_left
  · intro w hSw; (try dsimp only at hSw); go_simp; (try with_reducible rfl)
  simp only [Act.put, List.setIfInBounds_toArray, List.set_cons_zero, List.set_cons_succ]
  refine wpAnyH_take (i := 8) (oi := (Go.Oper.mk (some 51) (Go.Op.load 45 (Go.Operand.tmp 5)) 45 _ #[] none)) (v := ?_) rfl (by kernel_rfl) (by kernel_rfl) (by kernel_rfl) (fun _ _ _ h => h) (Or.inl ⟨by rfl, ?_⟩) hHeld ?_
  rotate_left
  · intro w hSw; (try dsimp only at hSw); go_simp; (try with_reducible rfl)
  simp only [Act.put, List.setIfInBounds_toArray, List.set_cons_zero, List.set_cons_succ]
  refine wpAnyH_take (i := 9) (oi := (Go.Oper.mk (some 52) (Go.Op.makeFunc (Go.Fn.func 39) #[Go.Operand.tmp 51] #[]) 32 _ #[Go.Edge.mk 8 Go.Ground.data] none)) (v := ?_) rfl (by kernel_rfl) (by kernel_rfl) (by kernel_rfl) (fun _ _ _ h => h) (Or.inl ⟨by rfl, ?_⟩) hHeld ?_
  rotate_left
  · intro w hSw; (try dsimp only at hSw); go_simp; (try with_reducible rfl)
  simp only [Act.put, List.setIfInBounds_toArray, List.set_cons_zero, List.set_cons_succ]
  refine wpAnyH_ready (rs := [5]) (by kernel_rfl) (by simp) ?_
  refine (AllReadyH.cons (o := (Go.Oper.mk (some 48) (Go.Op.call (Go.Call.mk (Go.Callee.value (Go.Operand.func 42)) #[Go.Operand.tmp 46, Go.Operand.const (Go.Value.string (ByteArray.mk #[99, 111, 118, 101, 110, 97, 110, 116, 46, 97, 111, 102])), Go.Operand.tmp 47] #[45, 9, 9])) 32 _ #[Go.Edge.mk 3 Go.Ground.data, Go.Edge.mk 4 Go.Ground.data] none)) rfl (fun K hK => ?_) AllReadyH.nil)
  · skip
    go_simp
    (refine (appendTo_any b _ _ _).mono ?_); (rintro e wa ⟨p, q, r, rfl, hp, hq, hr, hpl, hql, hrl, ba⟩); (have HA := Lib.hid (And.intro hp (And.intro hq (And.intro hr (And.intro hpl (And.intro hql (And.intro hrl ba))))))); (clear hp hq hr hpl hql hrl ba)
    go_wp2_with fail
    refine hK.out _ _ ?_ (fun hHeld => ?_)
    · exact HBK.out _ (RdBox.below (W := wd) BZ.out HA.out.2.2.2.2.2.2)
    clear hK K
    (try simp only [Act.put, List.setIfInBounds_toArray, List.set_cons_zero, List.set_cons_succ])
    refine wpAnyH_ready (rs := [7]) (by kernel_rfl) (by simp) ?_
    refine (AllReadyH.cons (o := (Go.Oper.mk (some 50) (Go.Op.call (Go.Call.mk (Go.Callee.value (Go.Operand.func 44)) #[Go.Operand.tmp 49] #[45])) 32 _ #[Go.Edge.mk 6 Go.Ground.data, Go.Edge.mk 5 Go.Ground.chain] none)) rfl (fun K hK => ?_) AllReadyH.nil)
    · skip
      go_simp
      (refine (syncs_any b _).mono ?_); (rintro e wb ⟨p2, rfl, hp2, hpl2, bb⟩); (have HB := Lib.hid (And.intro hp2 (And.intro hpl2 bb))); (clear hp2 hpl2 bb)
      go_wp2_with fail
      refine hK.out _ _ ?_ (fun hHeld => ?_)
      · exact HBK.out _ (hHeld.1.below HB.out.2.2)
      clear hK K
      (try simp only [Act.put, List.setIfInBounds_toArray, List.set_cons_zero, List.set_cons_succ])
      refine wpAnyH_ready (rs := [10]) (by kernel_rfl) (by simp) ?_
      refine (AllReadyH.cons (o := (Go.Oper.mk (some 53) (Go.Op.buildSlice 115 4 #[(0, Go.Operand.tmp 45), (1, Go.Operand.tmp 48), (2, Go.Operand.tmp 50), (3, Go.Operand.tmp 52)]) 115 _ #[Go.Edge.mk 2 Go.Ground.data, Go.Edge.mk 5 Go.Ground.data, Go.Edge.mk 7 Go.Ground.data, Go.Edge.mk 9 Go.Ground.data] none)) rfl (fun K hK => ?_) AllReadyH.nil)
      · skip
        go_simp
        refine hK.out _ _ ?_ (fun hHeld => ?_)
        · exact HBK.out _ (hHeld.1.below ((Below.refl _ _).alloc (Nat.le_refl _) _))
        clear hK K
        (try simp only [Act.put, List.setIfInBounds_toArray, List.set_cons_zero, List.set_cons_succ])
        refine wpAnyH_ready (rs := [11]) (by kernel_rfl) (by simp) ?_
        refine (AllReadyH.cons (o := (Go.Oper.mk (some 54) (Go.Op.call (Go.Call.mk (Go.Callee.value (Go.Operand.func 36)) #[Go.Operand.tmp 53] #[115])) 73 _ #[Go.Edge.mk 10 Go.Ground.data, Go.Edge.mk 7 Go.Ground.chain] none)) rfl (fun K hK => ?_) AllReadyH.nil)
        · skip
          go_simp
          (refine (HEA.out wa wb p q r p2 _ _ HA.out HB.out rfl).mono ?_); (rintro e w9 ⟨v, P9, rfl, lw9, k9, r9, ev9, x9⟩); (have H9 := Lib.hid (And.intro lw9 (And.intro k9 (And.intro r9 (And.intro ev9 x9))))); (clear lw9 k9 r9 ev9 x9)
          go_wp2_with fail
          refine hK.out _ _ ?_ (fun hHeld => ?_)
          · exact HBK.out _ (hHeld.1.wr H9.out.2.2.2.2 (fun k hk => .inl (hPb k hk.1)))
          clear hK K
          (try simp only [Act.put, List.setIfInBounds_toArray, List.set_cons_zero, List.set_cons_succ])
          refine wpAnyH_take (i := 12) (oi := (Go.Oper.mk (some 2) (Go.Op.assign (Go.Operand.const (Go.Value.slice none 0 0))) 23 _ #[Go.Edge.mk 11 Go.Ground.chain, Go.Edge.mk 0 (Go.Ground.textOnly Go.Departure.lateStores), Go.Edge.mk 1 (Go.Ground.textOnly Go.Departure.lateStoresUnsure), Go.Edge.mk 2 (Go.Ground.textOnly Go.Departure.lateStores), Go.Edge.mk 3 (Go.Ground.textOnly Go.Departure.lateStores), Go.Edge.mk 4 (Go.Ground.textOnly Go.Departure.lateStores), Go.Edge.mk 5 (Go.Ground.textOnly Go.Departure.lateStoresUnsure), Go.Edge.mk 6 (Go.Ground.textOnly Go.Departure.lateStores), Go.Edge.mk 7 (Go.Ground.textOnly Go.Departure.lateStoresUnsure), Go.Edge.mk 8 (Go.Ground.textOnly Go.Departure.lateStores), Go.Edge.mk 9 (Go.Ground.textOnly Go.Departure.lateStores), Go.Edge.mk 10 (Go.Ground.textOnly Go.Departure.lateStores), Go.Edge.mk 11 (Go.Ground.textOnly Go.Departure.lateStoresUnsure)] none)) (v := ?_) rfl (by kernel_rfl) (by kernel_rfl) (by kernel_rfl) (fun _ _ _ h => h) (Or.inl ⟨by rfl, ?_⟩) hHeld ?_
          rotate_left
          · intro w hSw; (try dsimp only at hSw); go_simp; (try with_reducible rfl)
          simp only [Act.put, List.setIfInBounds_toArray, List.set_cons_zero, List.set_cons_succ]
          refine wpAnyH_take (i := 13) (oi := (Go.Oper.mk (some 3) (Go.Op.assign (Go.Operand.tmp 44)) 3 _ #[Go.Edge.mk 1 Go.Ground.data, Go.Edge.mk 12 Go.Ground.chain, Go.Edge.mk 0 Go.Ground.phase, Go.Edge.mk 1 Go.Ground.phase, Go.Edge.mk 2 (Go.Ground.textOnly Go.Departure.lateStores), Go.Edge.mk 3 (Go.Ground.textOnly Go.Departure.lateStores), Go.Edge.mk 4 (Go.Ground.textOnly Go.Departure.lateStores), Go.Edge.mk 5 (Go.Ground.textOnly Go.Departure.lateStoresUnsure), Go.Edge.mk 6 (Go.Ground.textOnly Go.Departure.lateStores), Go.Edge.mk 7 (Go.Ground.textOnly Go.Departure.lateStoresUnsure), Go.Edge.mk 8 (Go.Ground.textOnly Go.Departure.lateStores), Go.Edge.mk 9 (Go.Ground.textOnly Go.Departure.lateStores), Go.Edge.mk 10 (Go.Ground.textOnly Go.Departure.lateStores), Go.Edge.mk 11 (Go.Ground.textOnly Go.Departure.lateStoresUnsure), Go.Edge.mk 12 Go.Ground.phase] none)) (v := ?_) rfl (by kernel_rfl) (by kernel_rfl) (by kernel_rfl) (fun _ _ _ h => h) (Or.inl ⟨by rfl, ?_⟩) hHeld ?_
          rotate_left
          · intro w hSw; (try dsimp only at hSw); go_simp; (try with_reducible rfl)
          simp only [Act.put, List.setIfInBounds_toArray, List.set_cons_zero, List.set_cons_succ]
          refine wpAnyH_take (i := 14) (oi := (Go.Oper.mk (some 4) (Go.Op.assign (Go.Operand.tmp 54)) 73 _ #[Go.Edge.mk 11 Go.Ground.data, Go.Edge.mk 13 Go.Ground.chain, Go.Edge.mk 0 Go.Ground.phase, Go.Edge.mk 1 Go.Ground.phase, Go.Edge.mk 2 Go.Ground.phase, Go.Edge.mk 3 Go.Ground.phase, Go.Edge.mk 4 Go.Ground.phase, Go.Edge.mk 5 Go.Ground.phase, Go.Edge.mk 6 Go.Ground.phase, Go.Edge.mk 7 Go.Ground.phase, Go.Edge.mk 8 Go.Ground.phase, Go.Edge.mk 9 Go.Ground.phase, Go.Edge.mk 10 Go.Ground.phase, Go.Edge.mk 11 Go.Ground.phase, Go.Edge.mk 12 Go.Ground.phase, Go.Edge.mk 13 Go.Ground.phase] none)) (v := ?_) rfl (by kernel_rfl) (by kernel_rfl) (by kernel_rfl) (fun _ _ _ h => h) (Or.inl ⟨by rfl, ?_⟩) hHeld ?_
          rotate_left
          · intro w hSw; (try dsimp only at hSw); go_simp; (try with_reducible rfl)
          simp only [Act.put, List.setIfInBounds_toArray, List.set_cons_zero, List.set_cons_succ]
          refine wpAnyH_done (by kernel_rfl) ?_ _
          go_wp2
          go_ret3
          have h9 := H9.out
          refine ⟨_, _, w9.heap.size, rfl, LgEnd.early ⟨P9, h9.1, h9.2.1, h9.2.2.1⟩ BD.out, h9.2.2.2.1.loose.early BD.out.size, World.ownsRow_nil _ _ _ _, Nat.le_trans BD.out.size h9.2.2.1.size⟩
theorem read_short {s : Tx} (h : LW P w l b a S L) (hI : S.Inv) (hS : S.Small j) (hj : j ≤ 4194000) (ha : S.askE logN = 0) (hs : S.readT logN = s) (hl : s.length < 16) (hp : (headT 1).take s.length = s) :
    Calls Tryz.prog 40 #[.pointer (some ⟨l, 0, none⟩)] w (RdEnd P w l b a (rdShort S) L [] s.length) :=
  (read_short0 h.bounded (fun k hk => hk.2) hI hS hj ha hs hl hp).mono fun e w' he => he.unbound
end
end Go.Proofs.YtfbjmhipjfjaeaaGreatDoor
