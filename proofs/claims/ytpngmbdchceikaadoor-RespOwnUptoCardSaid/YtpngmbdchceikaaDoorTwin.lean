/- The law's twin: a reply in new memory. -/
import Derived.Test.YtpngmbdchceikaaDoorGrow
namespace Go.Proofs.YtpngmbdchceikaaDoor
open Go.ChangeShapes Go.WideShapes Go.ChangeAt Go.RowKit
open Pl (R)
set_option linter.unusedVariables false

/-- A block of four cells. -/
def Blk4 (w : World) (g : Nat) (a b c d : Value) : Prop := w.heap[g]? = some (.cells #[a, b, c, d] 24 (0, 0))
theorem Blk4.cells {w : World} {g : Nat} {a b c d : Value} (h : Blk4 w g a b c d) : w.cell? ⟨g, 0, none⟩ = some a ∧ w.cell? ⟨g, 1, none⟩ = some b ∧ w.cell? ⟨g, 2, none⟩ = some c ∧ w.cell? ⟨g, 3, none⟩ = some d := by
  unfold Blk4 at h
  simp [World.cell?, h]
theorem Blk4.free {w : World} {g : Nat} {a b c d : Value} (h : Blk4 w g a b c d) (i : Nat) : w.frozen? ⟨g, i, none⟩ = false := by
  unfold Blk4 at h
  simp [World.frozen?, h]
theorem Blk4.kept {w w' : World} {g : Nat} {a b c d : Value} (h : Blk4 w g a b c d) (hb : w'.heap[g]? = w.heap[g]?) : Blk4 w' g a b c d := hb.trans h
theorem Blk4.lt {w : World} {g : Nat} {a b c d : Value} (h : Blk4 w g a b c d) : g < w.heap.size := (Array.getElem?_eq_some_iff.1 h).1
theorem Blk4.later {w w' : World} {g : Nat} {a b c d : Value} (h : Blk4 w g a b c d) (hb : Below w.heap.size w w') : Blk4 w' g a b c d := h.kept (hb.block g h.lt)
theorem Blk4.set0 {w : World} {g : Nat} {a b c d : Value} (h : Blk4 w g a b c d) (u : Value) : Blk4 (w.setCell ⟨g, 0, none⟩ u) g u b c d := heap_setCell_same w g 0 _ _ u h
theorem Blk4.set1 {w : World} {g : Nat} {a b c d : Value} (h : Blk4 w g a b c d) (u : Value) : Blk4 (w.setCell ⟨g, 1, none⟩ u) g a u c d := heap_setCell_same w g 1 _ _ u h
theorem Blk4.set2 {w : World} {g : Nat} {a b c d : Value} (h : Blk4 w g a b c d) (u : Value) : Blk4 (w.setCell ⟨g, 2, none⟩ u) g a b u d := heap_setCell_same w g 2 _ _ u h
theorem RRow.mono {base base' : Nat} {w : World} {v : Value} {l : List R} (h : RRow base w v l) (hb : base' ≤ base) : RRow base' w v l := by
  obtain ⟨ps, e, h, hp⟩ := h
  refine ⟨ps, e, ⟨h.1, h.2.imp id fun ⟨g, cap, cur, h1, h2, h3⟩ => ⟨g, cap, cur, h1, by omega, h3⟩⟩, fun p hm => ⟨(hp p hm).1, (hp p hm).2.mono fun b hq => ⟨by omega, hq.2⟩⟩⟩
theorem RRow.set {base : Nat} {w : World} {v : Value} {l : List R} (h : RRow base w v l) (p : Addr) (hp : p.block < base) (u : Value) : RRow base (w.setCell p u) v l :=
  h.kept (by simp [World.setCell]) fun b h1 _ => heap_setCell_other _ _ _ _ (by omega)
theorem replyInfo : (Tryd.prog.info? 24).map (·.size) = some 4 := by kernel_rfl
/-- The end of a function whose result is a reply in a box. -/
theorem reply_end {W : World} {a b c d : Value} {tmps : Array Value} {n p : Nat} {fn : Func} (hr : fn.results = #[.cell p 24]) (hp : tmps.getD p undef = .pointer (some ⟨n, 0, none⟩)) (hg : Blk4 W n a b c d) :
    (results fn tmps).run Tryd.prog W = .ok (.agg #[a, b, c, d]) W :=
  results_cell_row hr tmps W n _ _ _ _ hp hg Tryd.underlying24 rfl replyInfo
theorem Blk4.set3 {w : World} {g : Nat} {a b c d : Value} (h : Blk4 w g a b c d) (u : Value) : Blk4 (w.setCell ⟨g, 3, none⟩ u) g a b c u := heap_setCell_same w g 3 _ _ u h

theorem Blk4.new {w : World} {g : Nat} {a b c d : Value} (h : g = w.heap.size) : Blk4 (w.alloc (.cells #[a, b, c, d] 24)) g a b c d := by subst h; exact heap_alloc_new w _
theorem Blk4.alloc {w : World} {g : Nat} {a b c d : Value} (h : Blk4 w g a b c d) (o : Obj) : Blk4 (w.alloc o) g a b c d := (heap_alloc_old w o h.lt).trans h

theorem take_more {l : List R} {j : Nat} {r : R} (h : l[j]? = some r) : l.take j ++ [r] = l.take (j + 1) := by
  obtain ⟨h1, h2⟩ := List.getElem?_eq_some_iff.1 h
  rw [List.take_succ_eq_append_getElem h1, h2]

/-- The twin of r. -/
def TwinOk (r : R) : Prop := ∀ (lv : Value) (F : Nat → Prop) (w : World), OkR r → LIs F w lv r.l → Calls Tryd.prog 13 #[rv r lv] w fun e w' => ∃ v', e = .returned (rv r v') ∧ RRow w.heap.size w' v' r.l ∧ Below w.heap.size w w'

set_option maxRecDepth 100000 in
set_option maxHeartbeats 1600000 in
theorem twin_of (k : Int) (t : List UInt8) (n : Int) (l : List R) (ih : ∀ r ∈ l, TwinOk r) : TwinOk (.mk k t n l) := by
  intro lv F w hok hL
  replace hL : LIs F w lv l := hL
  have hl : l.length ≤ 1073741824 := hok.2.2.2
  obtain ⟨ao, cp, rfl⟩ := hL.shape
  have HL := Lib.hid hL
  have IH := Lib.hid ih
  show Calls Tryd.prog 13 #[.agg #[.int .i64 k, .string (str t), .int .i64 n, .slice ao l.length cp]] w fun e w' => ∃ v', e = .returned (.agg #[.int .i64 k, .string (str t), .int .i64 n, v']) ∧ RRow w.heap.size w' v' l ∧ Below w.heap.size w w'
  clear hL ih hok
  go_enter Tryd.func13, Tryd.ntmps13
  go_wp2_with fail
  go_loopw [4] (fun i wr => ∃ (j : Nat) (v : Value), j ≤ l.length ∧ i = .int .i64 j ∧ Hid (Blk4 wr w.heap.size (.int .i64 k) (.string (str t)) (.int .i64 n) (.slice ao l.length cp)) ∧ Hid (Blk4 wr (w.heap.size + 1) (.int .i64 0) (.string ⟨#[]⟩) (.int .i64 0) (.slice none 0 0)) ∧ Hid (Blk4 wr (w.heap.size + 1 + 1) (.int .i64 k) (.string (str t)) (.int .i64 n) v) ∧ Hid (RRow (w.heap.size + 3) wr v (l.take j)) ∧ Hid (Below w.heap.size w wr)) (fun i _ => l.length - (intOf i).toNat)
  case atStart =>
    exact ⟨0, _, Nat.zero_le _, rfl, ((Blk4.new rfl).alloc _).alloc _, (Blk4.new (by simp)).alloc _, Blk4.new (by simp), RRow.nil _ _, (((Below.refl _ _).alloc (Nat.le_refl _) _).alloc (by simp) _).alloc (by simp; omega) _⟩
  case round =>
    obtain ⟨j, v, hj, rfl, hP, hQ, hX, hrow, hb⟩ := hrel
    obtain ⟨p0, p1, p2, p3⟩ := hP.out.cells
    by_cases hlt : j < l.length
    · obtain ⟨g, off, r, lv, rfl, hg, hr, hok, k0, k1, k2, k3, hLe⟩ := HL.out.at hlt
      have HR := Lib.hid hr
      clear hr
      obtain ⟨aj, cj, rfl⟩ := hLe.shape
      have HE := Lib.hid hLe
      have HT := Lib.hid (IH.out r (List.mem_of_getElem? HR.out) (.slice aj r.l.length cj) F)
      have hPlt := hP.out.lt
      have hXlt := hX.out.lt
      obtain ⟨x0, x1, x2, x3⟩ := hX.out.cells
      have hlen : (l.take j).length ≤ 1073741824 := by rw [List.length_take]; omega
      have hcell : ∀ {p : Addr} {u : Value}, p.block < w.heap.size + 2 → wr.cell? p = some u → ∀ W, Below (w.heap.size + 2) wr W → W.cell? p = some u := fun hp h W hW => (hW.cell hp).trans h
      have hcell2 : ∀ {p : Addr} {u : Value}, p.block < w.heap.size → w.cell? p = some u → wr.cell? p = some u := fun hp h => (hb.out.cell hp).trans h
      have d0 : ((j : Nat) : Int) < ((l.length : Nat) : Int) := by omega
      have hg2 : g < w.heap.size + 2 := by omega
      have KC := Lib.hid (show ∀ W, Below (w.heap.size + 2) wr W → W.cell? ⟨w.heap.size, 3, none⟩ = some (.slice (some ⟨g, off, none⟩) l.length cp) ∧ W.cell? ⟨g, off + j * 4, none⟩ = some (.int .i64 r.k) ∧ W.cell? ⟨g, off + j * 4 + 1, none⟩ = some (.string (str r.t)) ∧ W.cell? ⟨g, off + j * 4 + 2, none⟩ = some (.int .i64 r.n) ∧ W.cell? ⟨g, off + j * 4 + 3, none⟩ = some (.slice aj r.l.length cj) from
        fun W h => ⟨hcell (by simp) p3 W h, hcell hg2 (hcell2 hg k0) W h, hcell hg2 (hcell2 hg k1) W h, hcell hg2 (hcell2 hg k2) W h, hcell hg2 (hcell2 hg k3) W h⟩)
      have hown := hrow.out.own
      have HF := Lib.hid (show ∀ b, wr.drew.heap.size ≤ b → w.heap.size + 3 ≤ b ∧ v.ownBlock ≠ some b from fun b hb => ⟨by have : wr.drew.heap.size = wr.heap.size := rfl; omega, fun e => by have := hown b e; have : wr.drew.heap.size = wr.heap.size := rfl; omega⟩)
      have HOwn := Lib.hid hown
      clear hLe hcell hcell2 k0 k1 k2 k3 hown
      go_wp2_with fail
      refine wp_region_held_drew (S := (fun W => Below (w.heap.size + 2) wr W ∧ W.cell? ⟨w.heap.size, 3, none⟩ = some (.slice (some ⟨g, off, none⟩) l.length cp) ∧ W.cell? ⟨g, off + j * 4, none⟩ = some (.int .i64 r.k) ∧ W.cell? ⟨g, off + j * 4 + 1, none⟩ = some (.string (str r.t)) ∧ W.cell? ⟨g, off + j * 4 + 2, none⟩ = some (.int .i64 r.n) ∧ W.cell? ⟨g, off + j * 4 + 3, none⟩ = some (.slice aj r.l.length cj))) (by kernel_rfl) ?_ (fun hHeld => ?_)
      · refine (fun h => And.intro h (KC.out _ h)) ?_; first | assumption | exact Below.refl _ _ | exact (Below.refl _ _).drew | exact hHeld.1 | exact hHeld.1.alloc (by omega) _
      refine wpAnyH_take (i := 0) (oi := (Go.Oper.mk (some 14) (Go.Op.fieldAddr 24 (Go.Operand.tmp 3) 3) 0 _ #[] none)) (v := ?_) rfl (by kernel_rfl) (by kernel_rfl) (by kernel_rfl) (fun _ _ _ h => h) (Or.inl ⟨by rfl, ?_⟩) hHeld ?_
      rotate_left
      · intro w hSw; (try dsimp only at hSw); go_simp; (try with_reducible rfl)
      simp only [Act.put, List.setIfInBounds_toArray, List.set_cons_zero, List.set_cons_succ]
      refine wpAnyH_take (i := 2) (oi := (Go.Oper.mk (some 16) (Go.Op.fieldAddr 24 (Go.Operand.tmp 1) 3) 0 _ #[] none)) (v := ?_) rfl (by kernel_rfl) (by kernel_rfl) (by kernel_rfl) (fun _ _ _ h => h) (Or.inl ⟨by rfl, ?_⟩) hHeld ?_
      rotate_left
      · intro w hSw; (try dsimp only at hSw); go_simp; (try with_reducible rfl)
      simp only [Act.put, List.setIfInBounds_toArray, List.set_cons_zero, List.set_cons_succ]
      refine wpAnyH_take (i := 3) (oi := (Go.Oper.mk (some 17) (Go.Op.load 22 (Go.Operand.tmp 16)) 22 _ #[Go.Edge.mk 2 Go.Ground.data] none)) (v := ?_) rfl (by kernel_rfl) (by kernel_rfl) (by kernel_rfl) (fun _ _ _ h => h) (Or.inl ⟨by rfl, ?_⟩) hHeld ?_
      rotate_left
      · intro w hSw; (try dsimp only at hSw); go_simp; (try with_reducible rfl)
      simp only [Act.put, List.setIfInBounds_toArray, List.set_cons_zero, List.set_cons_succ]
      refine wpAnyH_take (i := 4) (oi := (Go.Oper.mk (some 18) (Go.Op.move (Go.Operand.tmp 4)) 3 _ #[] none)) (v := ?_) rfl (by kernel_rfl) (by kernel_rfl) (by kernel_rfl) (fun _ _ _ h => h) (Or.inl ⟨by rfl, ?_⟩) hHeld ?_
      rotate_left
      · intro w hSw; (try dsimp only at hSw); go_simp; (try with_reducible rfl)
      simp only [Act.put, List.setIfInBounds_toArray, List.set_cons_zero, List.set_cons_succ]
      refine wpAnyH_take (i := 5) (oi := (Go.Oper.mk (some 19) (Go.Op.indexAddr 22 (Go.Operand.tmp 17) (Go.Operand.tmp 18)) 0 _ #[Go.Edge.mk 3 Go.Ground.data, Go.Edge.mk 4 Go.Ground.data] none)) (v := ?_) rfl (by kernel_rfl) (by kernel_rfl) (by kernel_rfl) (fun _ _ _ h => h) (Or.inl ⟨by rfl, ?_⟩) hHeld ?_
      rotate_left
      · intro w hSw; (try dsimp only at hSw); go_simp; (try with_reducible rfl)
      simp only [Act.put, List.setIfInBounds_toArray, List.set_cons_zero, List.set_cons_succ]
      refine wpAnyH_take (i := 6) (oi := (Go.Oper.mk (some 20) (Go.Op.load 24 (Go.Operand.tmp 19)) 24 _ #[Go.Edge.mk 5 Go.Ground.data] none)) (v := ?_) rfl (by kernel_rfl) (by kernel_rfl) (by kernel_rfl) (fun _ _ _ h => h) (Or.inl ⟨by rfl, ?_⟩) hHeld ?_
      rotate_left
      · intro w hSw; (try dsimp only at hSw); go_simp; (try with_reducible rfl)
      simp only [Act.put, List.setIfInBounds_toArray, List.set_cons_zero, List.set_cons_succ]
      refine wpAnyH_ready (rs := [1, 7]) (by kernel_rfl) (by simp) ?_
      refine (AllReadyH.cons (o := (Go.Oper.mk (some 15) (Go.Op.load 22 (Go.Operand.tmp 14)) 22 _ #[Go.Edge.mk 0 Go.Ground.data] none)) rfl (fun K hK => ?_) (AllReadyH.cons (o := (Go.Oper.mk (some 21) (Go.Op.call (Go.Call.mk (Go.Callee.value (Go.Operand.func 13)) #[Go.Operand.tmp 20] #[24])) 24 _ #[Go.Edge.mk 6 Go.Ground.data] none)) rfl (fun K hK => ?_) AllReadyH.nil))
      · skip
        go_simp
        refine hK.out _ _ ?_ (fun hHeld => ?_)
        · refine (fun h => And.intro h (KC.out _ h)) ?_; first | assumption | exact Below.refl _ _ | exact (Below.refl _ _).drew | exact hHeld.1 | exact hHeld.1.alloc (by omega) _
        clear hK K
        (try simp only [Act.put, List.setIfInBounds_toArray, List.set_cons_zero, List.set_cons_succ])
        refine wpAnyH_ready (rs := [7]) (by kernel_rfl) (by simp) ?_
        refine (AllReadyH.cons (o := (Go.Oper.mk (some 21) (Go.Op.call (Go.Call.mk (Go.Callee.value (Go.Operand.func 13)) #[Go.Operand.tmp 20] #[24])) 24 _ #[Go.Edge.mk 6 Go.Ground.data] none)) rfl (fun K hK => ?_) AllReadyH.nil)
        · skip
          go_simp
          (with_reducible refine (HT.out _ hok (HE.out.later (hb.out.trans (hHeld.1.mono (by omega))))).mono ?_); rintro e wx ⟨vx, rfl, hrx, bx⟩; obtain ⟨ax, cx, rfl⟩ := hrx.shape; have PX := Lib.hid ((show Blk4 wr.drew _ _ _ _ _ from hP.out).later bx); have QX := Lib.hid ((show Blk4 wr.drew _ _ _ _ _ from hQ.out).later bx); have XX := Lib.hid ((show Blk4 wr.drew _ _ _ _ _ from hX.out).later bx); have RX := Lib.hid ((hrow.out.later (w' := wr.drew) (Below.refl _ _).drew).later bx); have HRX := Lib.hid hrx; obtain ⟨z0, z1, z2, z3⟩ := XX.out.cells; have z3b : ∀ o, (wx.alloc o).cell? ⟨w.heap.size + 1 + 1, 3, none⟩ = some v := fun o => (XX.out.alloc o).cells.2.2.2; have HBX := Lib.hid (show Below (w.heap.size + 2) wr wx from (Below.refl (w.heap.size + 2) wr).drew.trans (bx.mono (show w.heap.size + 2 ≤ wr.heap.size by omega))); have hzx : wr.heap.size ≤ wx.heap.size := bx.size; clear hrx bx
          go_wp2_with fail
          refine hK.out _ _ ?_ (fun hHeld => ?_)
          · refine (fun h => And.intro h (KC.out _ h)) ?_; exact HBX.out
          clear hK K
          (try simp only [Act.put, List.setIfInBounds_toArray, List.set_cons_zero, List.set_cons_succ])
          refine wpAnyH_ready (rs := [8]) (by kernel_rfl) (by simp) ?_
          refine (AllReadyH.cons (o := (Go.Oper.mk (some 22) (Go.Op.buildSlice 22 1 #[(0, Go.Operand.tmp 21)]) 22 _ #[Go.Edge.mk 7 Go.Ground.data] none)) rfl (fun K hK => ?_) AllReadyH.nil)
          · skip
            go_simp
            refine hK.out _ _ ?_ (fun hHeld => ?_)
            · refine (fun h => And.intro h (KC.out _ h)) ?_; exact HBX.out.alloc (by omega) _
            clear hK K
            (try simp only [Act.put, List.setIfInBounds_toArray, List.set_cons_zero, List.set_cons_succ])
            refine wpAnyH_ready (rs := [9]) (by kernel_rfl) (by simp) ?_
            refine (AllReadyH.cons (o := (Go.Oper.mk (some 23) (Go.Op.call (Go.Call.mk (Go.Callee.builtin Go.Builtin.append) #[Go.Operand.tmp 15, Go.Operand.tmp 22] #[22, 22])) 22 _ #[Go.Edge.mk 1 Go.Ground.data, Go.Edge.mk 8 Go.Ground.data, Go.Edge.mk 7 Go.Ground.chain] none)) rfl (fun K hK => ?_) AllReadyH.nil)
            · skip
              (rw [if_pos (by rfl)]; refine wp_append_reply wx (.tmp 15) (.tmp 22) rfl (w.heap.size + 3) v (l.take j) rfl RX.out r _ _ hok rfl HRX.out.lis HF.out rfl hlen (by omega) ?_; intro v2 w7 hrow7 hB7 hz7 hk7; rw [take_more HR.out] at hrow7; obtain ⟨a2, c2, hv⟩ := hrow7.shape; rw [List.length_take, Nat.min_eq_left (by omega)] at hv; subst hv; have P7 := Lib.hid (PX.out.kept (hk7 _ PX.out.lt fun e => by have := (HOwn.out _ e.symm).1; omega)); have Q7 := Lib.hid (QX.out.kept (hk7 _ QX.out.lt fun e => by have := (HOwn.out _ e.symm).1; omega)); have X7 := Lib.hid (XX.out.kept (hk7 _ XX.out.lt fun e => by have := (HOwn.out _ e.symm).1; omega)); obtain ⟨y0, y1, y2, y3⟩ := X7.out.cells; have y4 := X7.out.free 3; have B7 := Lib.hid (hB7 _ _ HBX.out (by omega)); have R7 := Lib.hid hrow7; clear hrow7 hB7 hk7)
              refine hK.out _ _ ?_ (fun hHeld => ?_)
              · refine (fun h => And.intro h (KC.out _ h)) ?_; exact B7.out
              clear hK K
              (try simp only [Act.put, List.setIfInBounds_toArray, List.set_cons_zero, List.set_cons_succ])
              refine wpAnyH_take (i := 10) (oi := (Go.Oper.mk (some 24) (Go.Op.fieldAddr 24 (Go.Operand.tmp 3) 3) 0 _ #[Go.Edge.mk 0 Go.Ground.phase, Go.Edge.mk 1 Go.Ground.phase, Go.Edge.mk 2 Go.Ground.phase, Go.Edge.mk 3 Go.Ground.phase, Go.Edge.mk 4 Go.Ground.phase, Go.Edge.mk 5 Go.Ground.phase, Go.Edge.mk 6 Go.Ground.phase, Go.Edge.mk 7 Go.Ground.phase, Go.Edge.mk 8 Go.Ground.phase, Go.Edge.mk 9 Go.Ground.phase] none)) (v := ?_) rfl (by kernel_rfl) (by kernel_rfl) (by kernel_rfl) (fun _ _ _ h => h) (Or.inl ⟨by rfl, ?_⟩) hHeld ?_
              rotate_left
              · intro w hSw; (try dsimp only at hSw); go_simp; (try with_reducible rfl)
              simp only [Act.put, List.setIfInBounds_toArray, List.set_cons_zero, List.set_cons_succ]
              refine wpAnyH_ready (rs := [11]) (by kernel_rfl) (by simp) ?_
              refine (AllReadyH.cons (o := (Go.Oper.mk none (Go.Op.store 22 (Go.Operand.tmp 24) (Go.Operand.tmp 23)) 0 _ #[Go.Edge.mk 10 Go.Ground.data, Go.Edge.mk 9 Go.Ground.data, Go.Edge.mk 9 Go.Ground.chain, Go.Edge.mk 0 Go.Ground.phase, Go.Edge.mk 1 Go.Ground.phase, Go.Edge.mk 2 Go.Ground.phase, Go.Edge.mk 3 Go.Ground.phase, Go.Edge.mk 4 Go.Ground.phase, Go.Edge.mk 5 Go.Ground.phase, Go.Edge.mk 6 Go.Ground.phase, Go.Edge.mk 7 Go.Ground.phase, Go.Edge.mk 8 Go.Ground.phase, Go.Edge.mk 9 Go.Ground.phase] none)) rfl (fun K hK => ?_) AllReadyH.nil)
              · skip
                go_simp
                have P8 := Lib.hid (P7.out.kept (heap_setCell_other w7 ⟨w.heap.size + 1 + 1, 3, none⟩ _ (.slice a2 (j + 1) c2) (by simp; omega))); have Q8 := Lib.hid (Q7.out.kept (heap_setCell_other w7 ⟨w.heap.size + 1 + 1, 3, none⟩ _ (.slice a2 (j + 1) c2) (by simp))); have X8 := Lib.hid (X7.out.set3 (.slice a2 (j + 1) c2)); have R8 := Lib.hid (R7.out.kept (w' := w7.setCell ⟨w.heap.size + 1 + 1, 3, none⟩ (.slice a2 (j + 1) c2)) (by simp [World.setCell]) (fun b h1 _ => heap_setCell_other _ _ _ _ (by simp; omega))); have B9 := Lib.hid (B7.out.setCell (p := ⟨w.heap.size + 1 + 1, 3, none⟩) (by simp) (.slice a2 (j + 1) c2)); have B8 := Lib.hid (hb.out.trans (B9.out.mono (by omega)))
                refine hK.out _ _ ?_ (fun hHeld => ?_)
                · refine (fun h => And.intro h (KC.out _ h)) ?_; exact B9.out
                clear hK K
                (try simp only [Act.put, List.setIfInBounds_toArray, List.set_cons_zero, List.set_cons_succ])
                refine wpAnyH_done (by kernel_rfl) ?_ _
                go_wp2
                go_roundw
                case rel => exact ⟨j + 1, _, by omega, by go_num, P8, Q8, X8, R8, B8⟩
                case measure => simp [intOf]; omega
      · skip
        go_simp
        (with_reducible refine (HT.out _ hok (HE.out.later (hb.out.trans (hHeld.1.mono (by omega))))).mono ?_); rintro e wx ⟨vx, rfl, hrx, bx⟩; obtain ⟨ax, cx, rfl⟩ := hrx.shape; have PX := Lib.hid ((show Blk4 wr.drew _ _ _ _ _ from hP.out).later bx); have QX := Lib.hid ((show Blk4 wr.drew _ _ _ _ _ from hQ.out).later bx); have XX := Lib.hid ((show Blk4 wr.drew _ _ _ _ _ from hX.out).later bx); have RX := Lib.hid ((hrow.out.later (w' := wr.drew) (Below.refl _ _).drew).later bx); have HRX := Lib.hid hrx; obtain ⟨z0, z1, z2, z3⟩ := XX.out.cells; have z3b : ∀ o, (wx.alloc o).cell? ⟨w.heap.size + 1 + 1, 3, none⟩ = some v := fun o => (XX.out.alloc o).cells.2.2.2; have HBX := Lib.hid (show Below (w.heap.size + 2) wr wx from (Below.refl (w.heap.size + 2) wr).drew.trans (bx.mono (show w.heap.size + 2 ≤ wr.heap.size by omega))); have hzx : wr.heap.size ≤ wx.heap.size := bx.size; clear hrx bx
        go_wp2_with fail
        refine hK.out _ _ ?_ (fun hHeld => ?_)
        · refine (fun h => And.intro h (KC.out _ h)) ?_; exact HBX.out
        clear hK K
        (try simp only [Act.put, List.setIfInBounds_toArray, List.set_cons_zero, List.set_cons_succ])
        refine wpAnyH_ready (rs := [1, 8]) (by kernel_rfl) (by simp) ?_
        refine (AllReadyH.cons (o := (Go.Oper.mk (some 15) (Go.Op.load 22 (Go.Operand.tmp 14)) 22 _ #[Go.Edge.mk 0 Go.Ground.data] none)) rfl (fun K hK => ?_) (AllReadyH.cons (o := (Go.Oper.mk (some 22) (Go.Op.buildSlice 22 1 #[(0, Go.Operand.tmp 21)]) 22 _ #[Go.Edge.mk 7 Go.Ground.data] none)) rfl (fun K hK => ?_) AllReadyH.nil))
        · skip
          go_simp
          refine hK.out _ _ ?_ (fun hHeld => ?_)
          · refine (fun h => And.intro h (KC.out _ h)) ?_; first | assumption | exact Below.refl _ _ | exact (Below.refl _ _).drew | exact hHeld.1 | exact hHeld.1.alloc (by omega) _
          clear hK K
          (try simp only [Act.put, List.setIfInBounds_toArray, List.set_cons_zero, List.set_cons_succ])
          refine wpAnyH_ready (rs := [8]) (by kernel_rfl) (by simp) ?_
          refine (AllReadyH.cons (o := (Go.Oper.mk (some 22) (Go.Op.buildSlice 22 1 #[(0, Go.Operand.tmp 21)]) 22 _ #[Go.Edge.mk 7 Go.Ground.data] none)) rfl (fun K hK => ?_) AllReadyH.nil)
          · skip
            go_simp
            refine hK.out _ _ ?_ (fun hHeld => ?_)
            · refine (fun h => And.intro h (KC.out _ h)) ?_; exact HBX.out.alloc (by omega) _
            clear hK K
            (try simp only [Act.put, List.setIfInBounds_toArray, List.set_cons_zero, List.set_cons_succ])
            refine wpAnyH_ready (rs := [9]) (by kernel_rfl) (by simp) ?_
            refine (AllReadyH.cons (o := (Go.Oper.mk (some 23) (Go.Op.call (Go.Call.mk (Go.Callee.builtin Go.Builtin.append) #[Go.Operand.tmp 15, Go.Operand.tmp 22] #[22, 22])) 22 _ #[Go.Edge.mk 1 Go.Ground.data, Go.Edge.mk 8 Go.Ground.data, Go.Edge.mk 7 Go.Ground.chain] none)) rfl (fun K hK => ?_) AllReadyH.nil)
            · skip
              (rw [if_pos (by rfl)]; refine wp_append_reply wx (.tmp 15) (.tmp 22) rfl (w.heap.size + 3) v (l.take j) rfl RX.out r _ _ hok rfl HRX.out.lis HF.out rfl hlen (by omega) ?_; intro v2 w7 hrow7 hB7 hz7 hk7; rw [take_more HR.out] at hrow7; obtain ⟨a2, c2, hv⟩ := hrow7.shape; rw [List.length_take, Nat.min_eq_left (by omega)] at hv; subst hv; have P7 := Lib.hid (PX.out.kept (hk7 _ PX.out.lt fun e => by have := (HOwn.out _ e.symm).1; omega)); have Q7 := Lib.hid (QX.out.kept (hk7 _ QX.out.lt fun e => by have := (HOwn.out _ e.symm).1; omega)); have X7 := Lib.hid (XX.out.kept (hk7 _ XX.out.lt fun e => by have := (HOwn.out _ e.symm).1; omega)); obtain ⟨y0, y1, y2, y3⟩ := X7.out.cells; have y4 := X7.out.free 3; have B7 := Lib.hid (hB7 _ _ HBX.out (by omega)); have R7 := Lib.hid hrow7; clear hrow7 hB7 hk7)
              refine hK.out _ _ ?_ (fun hHeld => ?_)
              · refine (fun h => And.intro h (KC.out _ h)) ?_; exact B7.out
              clear hK K
              (try simp only [Act.put, List.setIfInBounds_toArray, List.set_cons_zero, List.set_cons_succ])
              refine wpAnyH_take (i := 10) (oi := (Go.Oper.mk (some 24) (Go.Op.fieldAddr 24 (Go.Operand.tmp 3) 3) 0 _ #[Go.Edge.mk 0 Go.Ground.phase, Go.Edge.mk 1 Go.Ground.phase, Go.Edge.mk 2 Go.Ground.phase, Go.Edge.mk 3 Go.Ground.phase, Go.Edge.mk 4 Go.Ground.phase, Go.Edge.mk 5 Go.Ground.phase, Go.Edge.mk 6 Go.Ground.phase, Go.Edge.mk 7 Go.Ground.phase, Go.Edge.mk 8 Go.Ground.phase, Go.Edge.mk 9 Go.Ground.phase] none)) (v := ?_) rfl (by kernel_rfl) (by kernel_rfl) (by kernel_rfl) (fun _ _ _ h => h) (Or.inl ⟨by rfl, ?_⟩) hHeld ?_
              rotate_left
              · intro w hSw; (try dsimp only at hSw); go_simp; (try with_reducible rfl)
              simp only [Act.put, List.setIfInBounds_toArray, List.set_cons_zero, List.set_cons_succ]
              refine wpAnyH_ready (rs := [11]) (by kernel_rfl) (by simp) ?_
              refine (AllReadyH.cons (o := (Go.Oper.mk none (Go.Op.store 22 (Go.Operand.tmp 24) (Go.Operand.tmp 23)) 0 _ #[Go.Edge.mk 10 Go.Ground.data, Go.Edge.mk 9 Go.Ground.data, Go.Edge.mk 9 Go.Ground.chain, Go.Edge.mk 0 Go.Ground.phase, Go.Edge.mk 1 Go.Ground.phase, Go.Edge.mk 2 Go.Ground.phase, Go.Edge.mk 3 Go.Ground.phase, Go.Edge.mk 4 Go.Ground.phase, Go.Edge.mk 5 Go.Ground.phase, Go.Edge.mk 6 Go.Ground.phase, Go.Edge.mk 7 Go.Ground.phase, Go.Edge.mk 8 Go.Ground.phase, Go.Edge.mk 9 Go.Ground.phase] none)) rfl (fun K hK => ?_) AllReadyH.nil)
              · skip
                go_simp
                have P8 := Lib.hid (P7.out.kept (heap_setCell_other w7 ⟨w.heap.size + 1 + 1, 3, none⟩ _ (.slice a2 (j + 1) c2) (by simp; omega))); have Q8 := Lib.hid (Q7.out.kept (heap_setCell_other w7 ⟨w.heap.size + 1 + 1, 3, none⟩ _ (.slice a2 (j + 1) c2) (by simp))); have X8 := Lib.hid (X7.out.set3 (.slice a2 (j + 1) c2)); have R8 := Lib.hid (R7.out.kept (w' := w7.setCell ⟨w.heap.size + 1 + 1, 3, none⟩ (.slice a2 (j + 1) c2)) (by simp [World.setCell]) (fun b h1 _ => heap_setCell_other _ _ _ _ (by simp; omega))); have B9 := Lib.hid (B7.out.setCell (p := ⟨w.heap.size + 1 + 1, 3, none⟩) (by simp) (.slice a2 (j + 1) c2)); have B8 := Lib.hid (hb.out.trans (B9.out.mono (by omega)))
                refine hK.out _ _ ?_ (fun hHeld => ?_)
                · refine (fun h => And.intro h (KC.out _ h)) ?_; exact B9.out
                clear hK K
                (try simp only [Act.put, List.setIfInBounds_toArray, List.set_cons_zero, List.set_cons_succ])
                refine wpAnyH_done (by kernel_rfl) ?_ _
                go_wp2
                go_roundw
                case rel => exact ⟨j + 1, _, by omega, by go_num, P8, Q8, X8, R8, B8⟩
                case measure => simp [intOf]; omega
        · skip
          go_simp
          refine hK.out _ _ ?_ (fun hHeld => ?_)
          · refine (fun h => And.intro h (KC.out _ h)) ?_; exact HBX.out.alloc (by omega) _
          clear hK K
          (try simp only [Act.put, List.setIfInBounds_toArray, List.set_cons_zero, List.set_cons_succ])
          refine wpAnyH_ready (rs := [1]) (by kernel_rfl) (by simp) ?_
          refine (AllReadyH.cons (o := (Go.Oper.mk (some 15) (Go.Op.load 22 (Go.Operand.tmp 14)) 22 _ #[Go.Edge.mk 0 Go.Ground.data] none)) rfl (fun K hK => ?_) AllReadyH.nil)
          · skip
            go_simp
            refine hK.out _ _ ?_ (fun hHeld => ?_)
            · refine (fun h => And.intro h (KC.out _ h)) ?_; first | assumption | exact Below.refl _ _ | exact (Below.refl _ _).drew | exact hHeld.1 | exact hHeld.1.alloc (by omega) _
            clear hK K
            (try simp only [Act.put, List.setIfInBounds_toArray, List.set_cons_zero, List.set_cons_succ])
            refine wpAnyH_ready (rs := [9]) (by kernel_rfl) (by simp) ?_
            refine (AllReadyH.cons (o := (Go.Oper.mk (some 23) (Go.Op.call (Go.Call.mk (Go.Callee.builtin Go.Builtin.append) #[Go.Operand.tmp 15, Go.Operand.tmp 22] #[22, 22])) 22 _ #[Go.Edge.mk 1 Go.Ground.data, Go.Edge.mk 8 Go.Ground.data, Go.Edge.mk 7 Go.Ground.chain] none)) rfl (fun K hK => ?_) AllReadyH.nil)
            · skip
              (rw [if_pos (by rfl)]; refine wp_append_reply wx (.tmp 15) (.tmp 22) rfl (w.heap.size + 3) v (l.take j) rfl RX.out r _ _ hok rfl HRX.out.lis HF.out rfl hlen (by omega) ?_; intro v2 w7 hrow7 hB7 hz7 hk7; rw [take_more HR.out] at hrow7; obtain ⟨a2, c2, hv⟩ := hrow7.shape; rw [List.length_take, Nat.min_eq_left (by omega)] at hv; subst hv; have P7 := Lib.hid (PX.out.kept (hk7 _ PX.out.lt fun e => by have := (HOwn.out _ e.symm).1; omega)); have Q7 := Lib.hid (QX.out.kept (hk7 _ QX.out.lt fun e => by have := (HOwn.out _ e.symm).1; omega)); have X7 := Lib.hid (XX.out.kept (hk7 _ XX.out.lt fun e => by have := (HOwn.out _ e.symm).1; omega)); obtain ⟨y0, y1, y2, y3⟩ := X7.out.cells; have y4 := X7.out.free 3; have B7 := Lib.hid (hB7 _ _ HBX.out (by omega)); have R7 := Lib.hid hrow7; clear hrow7 hB7 hk7)
              refine hK.out _ _ ?_ (fun hHeld => ?_)
              · refine (fun h => And.intro h (KC.out _ h)) ?_; exact B7.out
              clear hK K
              (try simp only [Act.put, List.setIfInBounds_toArray, List.set_cons_zero, List.set_cons_succ])
              refine wpAnyH_take (i := 10) (oi := (Go.Oper.mk (some 24) (Go.Op.fieldAddr 24 (Go.Operand.tmp 3) 3) 0 _ #[Go.Edge.mk 0 Go.Ground.phase, Go.Edge.mk 1 Go.Ground.phase, Go.Edge.mk 2 Go.Ground.phase, Go.Edge.mk 3 Go.Ground.phase, Go.Edge.mk 4 Go.Ground.phase, Go.Edge.mk 5 Go.Ground.phase, Go.Edge.mk 6 Go.Ground.phase, Go.Edge.mk 7 Go.Ground.phase, Go.Edge.mk 8 Go.Ground.phase, Go.Edge.mk 9 Go.Ground.phase] none)) (v := ?_) rfl (by kernel_rfl) (by kernel_rfl) (by kernel_rfl) (fun _ _ _ h => h) (Or.inl ⟨by rfl, ?_⟩) hHeld ?_
              rotate_left
              · intro w hSw; (try dsimp only at hSw); go_simp; (try with_reducible rfl)
              simp only [Act.put, List.setIfInBounds_toArray, List.set_cons_zero, List.set_cons_succ]
              refine wpAnyH_ready (rs := [11]) (by kernel_rfl) (by simp) ?_
              refine (AllReadyH.cons (o := (Go.Oper.mk none (Go.Op.store 22 (Go.Operand.tmp 24) (Go.Operand.tmp 23)) 0 _ #[Go.Edge.mk 10 Go.Ground.data, Go.Edge.mk 9 Go.Ground.data, Go.Edge.mk 9 Go.Ground.chain, Go.Edge.mk 0 Go.Ground.phase, Go.Edge.mk 1 Go.Ground.phase, Go.Edge.mk 2 Go.Ground.phase, Go.Edge.mk 3 Go.Ground.phase, Go.Edge.mk 4 Go.Ground.phase, Go.Edge.mk 5 Go.Ground.phase, Go.Edge.mk 6 Go.Ground.phase, Go.Edge.mk 7 Go.Ground.phase, Go.Edge.mk 8 Go.Ground.phase, Go.Edge.mk 9 Go.Ground.phase] none)) rfl (fun K hK => ?_) AllReadyH.nil)
              · skip
                go_simp
                have P8 := Lib.hid (P7.out.kept (heap_setCell_other w7 ⟨w.heap.size + 1 + 1, 3, none⟩ _ (.slice a2 (j + 1) c2) (by simp; omega))); have Q8 := Lib.hid (Q7.out.kept (heap_setCell_other w7 ⟨w.heap.size + 1 + 1, 3, none⟩ _ (.slice a2 (j + 1) c2) (by simp))); have X8 := Lib.hid (X7.out.set3 (.slice a2 (j + 1) c2)); have R8 := Lib.hid (R7.out.kept (w' := w7.setCell ⟨w.heap.size + 1 + 1, 3, none⟩ (.slice a2 (j + 1) c2)) (by simp [World.setCell]) (fun b h1 _ => heap_setCell_other _ _ _ _ (by simp; omega))); have B9 := Lib.hid (B7.out.setCell (p := ⟨w.heap.size + 1 + 1, 3, none⟩) (by simp) (.slice a2 (j + 1) c2)); have B8 := Lib.hid (hb.out.trans (B9.out.mono (by omega)))
                refine hK.out _ _ ?_ (fun hHeld => ?_)
                · refine (fun h => And.intro h (KC.out _ h)) ?_; exact B9.out
                clear hK K
                (try simp only [Act.put, List.setIfInBounds_toArray, List.set_cons_zero, List.set_cons_succ])
                refine wpAnyH_done (by kernel_rfl) ?_ _
                go_wp2
                go_roundw
                case rel => exact ⟨j + 1, _, by omega, by go_num, P8, Q8, X8, R8, B8⟩
                case measure => simp [intOf]; omega
    · obtain rfl : j = l.length := by omega
      rw [List.take_length] at hrow
      obtain ⟨x0, x1, x2, x3⟩ := hX.out.cells
      obtain ⟨q0, q1, q2, q3⟩ := hQ.out.cells
      have q4 := fun i => hQ.out.free i
      obtain ⟨av, cv, hv⟩ := hrow.out.shape
      subst hv
      go_wp2
      refine bodyPost_ret (reply_end rfl rfl ((((hQ.out.set0 _).set1 _).set2 _).set3 _)) rfl ⟨_, rfl, ?_, ?_⟩
      · exact ((((hrow.out.set ⟨w.heap.size + 1, 0, none⟩ (by simp) _).set ⟨w.heap.size + 1, 1, none⟩ (by simp) _).set ⟨w.heap.size + 1, 2, none⟩ (by simp) _).set ⟨w.heap.size + 1, 3, none⟩ (by simp) _).mono (by omega)
      · exact (((hb.out.setCell (by simp) _).setCell (by simp) _).setCell (by simp) _).setCell (by simp) _
theorem twin_any : ∀ (r : R), TwinOk r
  | .mk k t n l => twin_of k t n l fun r hr => twin_any r
end Go.Proofs.YtpngmbdchceikaaDoor
