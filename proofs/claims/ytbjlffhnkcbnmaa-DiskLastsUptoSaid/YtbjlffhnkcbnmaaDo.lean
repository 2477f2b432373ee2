/- A deed with both disks. -/
import Derived.Test.YtbjlffhnkcbnmaaDuo
import Derived.Test.YtbjlffhnkcbnmaaDdRow
import Derived.Test.YtbjlffhnkcbnmaaAppI
namespace Go.Proofs.Ytbjlffhnkcbnmaa
open Go.ChangeShapes Go.WideShapes Go.ChangeAt Go.RowKit Go.Maps Pl
set_option linter.unusedVariables false
set_option linter.unusedSimpArgs false

/-- What a deed leaves. -/
def doS (S : Dk) (a : Dd) : Dk :=
  if a.kind = 0 then S.createS a.A else if a.kind = 1 then S.appendS a.A a.B else if a.kind = 2 then S.truncS a.A a.n else if a.kind = 3 then S.syncS a.A else if a.kind = 4 then S.renameS a.A a.B
  else if a.kind = 5 then S.removeS a.A else if a.kind = 6 then S.namesS else if a.kind = 7 then S.planS a.faults else if a.kind = 8 then S.crashS a.k a.bytes else S
theorem doS_inv {S : Dk} (h : S.Inv) (a : Dd) : (doS S a).Inv := by
  unfold doS
  split; exact h.create _
  split; exact h.append _ _
  split; exact h.trunc _ _
  split; exact h.syn _
  split; exact h.rename _ _
  split; exact h.remove _
  split; exact h.syncNames
  split; exact h.set _
  split; exact h.crash _ _
  exact h
theorem doS_small {S : Dk} {j : Nat} (h : S.Small j) {a : Dd} (ha : a.Ok) : (doS S a).Small (j + 1) := by
  unfold doS
  split; exact h.create ha.1
  split; exact h.append _ ha.2.1
  split; exact h.trunc _ _
  split; exact h.syn _
  split; exact h.rename ha.1 ha.2.1
  split; exact h.remove ha.1
  split; exact h.syncNames
  split; exact (h.set _).mono (Nat.le_succ j)
  split; exact (h.crash _ _).mono (Nat.le_succ j)
  exact h.mono (Nat.le_succ j)
theorem Duo.two {H : Nat → Prop} {w1 w2 w' : World} {b c : Nat} {S T : Dk} {v : Value} {e : Ending} (he : TwoEnd H b c S T v w2 e w') (hb : Below w1.heap.size w1 w2) : DuoEnd H w1 b c S T v e w' :=
  ⟨he.1, he.2.1.mono fun k hk => hk.imp id fun h => Nat.le_trans hb.size h, (Wr.of_below hb).trans he.2.2 (Grew.refl _ _)⟩
theorem faults_more {wb wl w5 : World} {o : Obj} {g cap : Nat} {l : List Flt} {v : Value} (m1 : FRow wl wb.heap.size v l) (b1 : Below wb.heap.size wb wl)
    (hown : w5.ownsRow wb.heap.size 58 3 (.slice (some ⟨g, 0, none⟩) (l.length + 1) cap) (l.length + 1) (l.flatMap flCells ++ [.int .i64 77, .int .i64 0, .int .i64 0])) (hg : (wl.alloc o).grownBy w5 v.ownBlock) :
    FRow w5 wb.heap.size (.slice (some ⟨g, 0, none⟩) (l ++ [(77, 0, 0)]).length cap) (l ++ [(77, 0, 0)]) ∧ Below wb.heap.size wb w5 ∧ wb.heap.size ≤ g ∧ g < w5.heap.size ∧ l.length + 1 ≤ cap := by
  have hlen : (l ++ [((77 : Int), (0 : Int), (0 : Int))]).length = l.length + 1 := by simp
  have h1 := World.ownsRow.lt hown g rfl
  refine ⟨?_, (b1.alloc b1.size o).grown hg (by have := b1.size; simp; omega) fun k hk => (m1.lt k hk).1, h1.1, h1.2, ?_⟩
  · unfold FRow
    rw [hlen, fl_snoc]
    exact hown
  · rcases hown.2 with ⟨e, _⟩ | ⟨g', cap', cur, e, _, _, h4, _⟩
    · cases e
    · simp only [Value.slice.injEq] at e
      omega
theorem PRow.first {w : World} {F : Nat → Prop} {ao : Option Addr} {n cp : Nat} {l r : List Flt} (h : PRow w F (.slice ao n cp) (l ++ r)) : PRow w F (.slice ao l.length cp) l := by
  obtain ⟨a, c, e, h⟩ := h
  simp only [Value.slice.injEq] at e
  obtain ⟨rfl, -, rfl⟩ := e
  refine ⟨_, _, rfl, ?_⟩
  rcases h with h | ⟨g, off, h1, hF, hg, hb, hc⟩
  · exact .inl (List.append_eq_nil_iff.1 h).1
  · exact .inr ⟨g, off, h1, hF, hg, hb, fun j p hp => hc j p (by rw [List.getElem?_append_left (List.getElem?_eq_some_iff.1 hp).1]; exact hp)⟩
/-- The row of faults that is spoilt, one by one. -/
def Spoil (w : World) (g n : Nat) (l : List Flt) (q : Nat) : Prop := ∃ cur, w.heap[g]? = some (.cells cur 58 (0, 0)) ∧ n * 3 ≤ cur.size ∧ ∀ (j : Nat) p, q ≤ j → l[j]? = some p → cur[j * 3]? = some (.int .i64 p.1) ∧ cur[j * 3 + 1]? = some (.int .i64 p.2.1) ∧ cur[j * 3 + 2]? = some (.int .i64 p.2.2)
theorem Spoil.cell {w : World} {g n : Nat} {l : List Flt} {q j : Nat} {p : Flt} (h : Spoil w g n l q) (hq : q ≤ j) (hp : l[j]? = some p) : w.cell? ⟨g, j * 3, none⟩ = some (.int .i64 p.1) ∧ w.cell? ⟨g, j * 3 + 1, none⟩ = some (.int .i64 p.2.1) ∧ w.cell? ⟨g, j * 3 + 2, none⟩ = some (.int .i64 p.2.2) := by
  obtain ⟨cur, hc, _, hl⟩ := h
  obtain ⟨h0, h1, h2⟩ := hl j p hq hp
  exact ⟨by simp [World.cell?, hc, h0], by simp [World.cell?, hc, h1], by simp [World.cell?, hc, h2]⟩
theorem Spoil.free {w : World} {g n : Nat} {l : List Flt} {q : Nat} (h : Spoil w g n l q) (o : Nat) : w.frozen? ⟨g, o, none⟩ = false := by
  obtain ⟨cur, hc, _⟩ := h
  simp only [World.frozen?, hc]; simp
theorem Spoil.set {w : World} {g n : Nat} {l : List Flt} {q o : Nat} (h : Spoil w g n l q) (ho : o < q * 3) (u : Value) : Spoil (w.setCell ⟨g, o, none⟩ u) g n l q := by
  obtain ⟨cur, hc, hs, hl⟩ := h
  refine ⟨_, heap_setCell_same hc, by simpa using hs, fun j p hj hp => ?_⟩
  obtain ⟨h0, h1, h2⟩ := hl j p hj hp
  refine ⟨?_, ?_, ?_⟩
  · rw [Array.getElem?_setIfInBounds_ne (by omega)]; exact h0
  · rw [Array.getElem?_setIfInBounds_ne (by omega)]; exact h1
  · rw [Array.getElem?_setIfInBounds_ne (by omega)]; exact h2
theorem Spoil.next {w : World} {g n : Nat} {l : List Flt} {q : Nat} (h : Spoil w g n l q) : Spoil w g n l (q + 1) := by
  obtain ⟨cur, hc, hs, hl⟩ := h
  exact ⟨cur, hc, hs, fun j p hj hp => hl j p (by omega) hp⟩
theorem Spoil.kept {w w' : World} {g n : Nat} {l : List Flt} {q : Nat} {F : Nat → Prop} (h : Spoil w g n l q) (hw : Wr F w w') (hg : ¬ F g) : Spoil w' g n l q := by
  obtain ⟨cur, hc, r⟩ := h
  exact ⟨cur, (hw.block g (Array.getElem?_eq_some_iff.1 hc).1 hg).trans hc, r⟩
theorem Spoil.of {w : World} {B g n cap : Nat} {l r : List Flt} (h : FRow w B (.slice (some ⟨g, 0, none⟩) n cap) (l ++ r)) : Spoil w g l.length l 0 := by
  have h0 := h
  rcases h.2 with ⟨e, _⟩ | ⟨g', cap', cur, e, _, h4, h5, _, h7, h8⟩
  · cases e
  · simp only [Value.slice.injEq, Option.some.injEq, Addr.mk.injEq] at e
    obtain ⟨⟨rfl, -⟩, hn, rfl⟩ := e
    have hle : l.length ≤ cap := by rw [List.length_append] at h5; omega
    refine ⟨cur, h4, by rw [h7]; omega, fun j p _ hp => ?_⟩
    have hj := (List.getElem?_eq_some_iff.1 hp).1
    have hp2 : (l ++ r)[j]? = some p := by rw [List.getElem?_append_left hj]; exact hp
    obtain ⟨c0, c1, c2⟩ := fl_get hp2
    have hc : ∀ k u, k < (l ++ r).length * 3 → ((l ++ r).flatMap flCells)[k]? = some u → cur[k]? = some u := fun k u hk hu => by
      have := congrArg (fun x => x[k]?) h8
      rw [hu] at this
      rw [← this, List.getElem?_take_of_lt hk]
      simp
    have hj3 : j < (l ++ r).length := by rw [List.length_append]; omega
    exact ⟨hc _ _ (by omega) c0, hc _ _ (by omega) c1, hc _ _ (by omega) c2⟩
theorem spoilt {P H' : Nat → Prop} {wb wr : World} {b c g n q : Nat} {S T : Dk} {l : List Flt} (ht : Two P wr b c S T) (hw : Wr H' wb wr) (hs : Spoil wr g n l q) (hg : ∀ k, P k → k ≠ g) (hb : wb.heap.size ≤ g) :
    Two P (((wr.setCell ⟨g, q * 3, none⟩ (.int .i64 1099511627776)).setCell ⟨g, q * 3 + 1, none⟩ (.int .i64 3)).setCell ⟨g, q * 3 + 2, none⟩ (.int .i64 0)) b c S T ∧
    Wr H' wb (((wr.setCell ⟨g, q * 3, none⟩ (.int .i64 1099511627776)).setCell ⟨g, q * 3 + 1, none⟩ (.int .i64 3)).setCell ⟨g, q * 3 + 2, none⟩ (.int .i64 0)) ∧
    Spoil (((wr.setCell ⟨g, q * 3, none⟩ (.int .i64 1099511627776)).setCell ⟨g, q * 3 + 1, none⟩ (.int .i64 3)).setCell ⟨g, q * 3 + 2, none⟩ (.int .i64 0)) g n l (q + 1) := by
  have hwk : Wr (fun k => k = g) wr (((wr.setCell ⟨g, q * 3, none⟩ (.int .i64 1099511627776)).setCell ⟨g, q * 3 + 1, none⟩ (.int .i64 3)).setCell ⟨g, q * 3 + 2, none⟩ (.int .i64 0)) :=
    Wr.setCell (F := fun k => k = g) (p := ⟨g, q * 3 + 2, none⟩) (Wr.setCell (F := fun k => k = g) (p := ⟨g, q * 3 + 1, none⟩) (Wr.setCell (F := fun k => k = g) (p := ⟨g, q * 3, none⟩) (Wr.refl _ wr) rfl _) rfl _) rfl _
  exact ⟨ht.kept hwk hg, hw.trans hwk fun k hk => .inr (by rw [hk]; exact hb), ((hs.next.set (o := q * 3) (by omega) _).set (o := q * 3 + 1) (by omega) _).set (o := q * 3 + 2) (by omega) _⟩
set_option maxRecDepth 100000 in
set_option maxHeartbeats 6400000 in
theorem deed_any {H K : Nat → Prop} {w1 w : World} {b c j : Nat} {S : Dk} (h : Duo H w1 w b c S S) (hI : S.Inv) (hS : S.Small j) (hj : j ≤ 4194300) (a : Dd) (ha : a.Ok) (v : Value) (hv : DdV w K v a) (hK : ∀ k, K k → ¬ (H k ∨ w1.heap.size ≤ k)) :
    Calls Try.prog 20 #[.pointer (some ⟨b, 0, none⟩), .pointer (some ⟨c, 0, none⟩), v] w (DuoEnd H w1 b c (doS S a) (doS S a) (.bool true)) := by
  obtain ⟨fv, bv, rfl, hq, hi⟩ := hv
  obtain ⟨fa, fc, rfl⟩ := hq.shape
  obtain ⟨ba, bc, rfl⟩ := hi.shape
  obtain ⟨H', h2, hH⟩ := h.at_
  obtain ⟨wb, hwb⟩ : ∃ wb, wb = w.alloc (.cells #[.int .i64 a.kind, .string (str a.A), .string (str a.B), .int .i64 a.n, .slice fa a.faults.length fc, .int .i64 a.k, .slice ba a.bytes.length bc] 42) := ⟨_, rfl⟩
  have hbel : Below w.heap.size w wb := by rw [hwb]; exact (Below.refl _ _).alloc (Nat.le_refl _) _
  have hblk : wb.heap[w.heap.size]? = some (.cells #[.int .i64 a.kind, .string (str a.A), .string (str a.B), .int .i64 a.n, .slice fa a.faults.length fc, .int .i64 a.k, .slice ba a.bytes.length bc] 42 (0, 0)) := by rw [hwb]; exact heap_alloc_new w _
  have hlt : w.heap.size < wb.heap.size := (Array.getElem?_eq_some_iff.1 hblk).1
  have HD := Lib.hid (Duo.start (h2.below hbel))
  have HT := Lib.hid (h2.below hbel)
  have HH2 := Lib.hid (show ∀ k, H' k → k < wb.heap.size from fun k hk => Nat.lt_trans (hH k hk).2 hlt)
  have hKH : ∀ k, K k → ¬ H' k := fun k hk hh => hK k hk (hH k hh).1
  have HB7 := Lib.hid (show ∀ W, Wr H' wb W → W.heap[w.heap.size]? = some (.cells #[.int .i64 a.kind, .string (str a.A), .string (str a.B), .int .i64 a.n, .slice fa a.faults.length fc, .int .i64 a.k, .slice ba a.bytes.length bc] 42 (0, 0)) from fun W hW => (hW.block _ hlt (fun hh => Nat.lt_irrefl _ (hH _ hh).2)).trans hblk)
  have HBX := Lib.hid (show ∀ W, Wr H' wb W → W.cell? ⟨w.heap.size, 1, none⟩ = some (.string (str a.A)) ∧ W.cell? ⟨w.heap.size, 2, none⟩ = some (.string (str a.B)) ∧ W.cell? ⟨w.heap.size, 3, none⟩ = some (.int .i64 a.n) from fun W hW => by
    have := HB7.out W hW
    exact ⟨by simp [World.cell?, this], by simp [World.cell?, this], by simp [World.cell?, this]⟩)
  have HQR := Lib.hid (show ∀ W, Wr H' wb W → QRow W K (.slice fa a.faults.length fc) a.faults from fun W hW => (hq.below hbel).kept hW hKH)
  have HIR := Lib.hid (show ∀ W, Wr H' wb W → IRow W K (.slice ba a.bytes.length bc) a.bytes from fun W hW => (hi.kept (F := fun _ => False) (Wr.of_below hbel) (fun _ _ h => h)).kept hW hKH)
  have HF := Lib.hid (fun (w' : World) (S' : Dk) (h' : Duo H' wb w' b c S' S') => h.back hbel h' fun k hk => (hH k hk).1)
  have HHK := Lib.hid (show ∀ k, K k → ¬ (H' k ∨ wb.heap.size ≤ k) from fun k hk hh => hh.elim (hKH k hk) fun h3 => by
    have := h.2.size
    have := hbel.size
    exact hK k hk (.inr (by omega)))
  clear h h2 hq hi hblk hbel hKH
  show Calls Try.prog 20 #[.pointer (some ⟨b, 0, none⟩), .pointer (some ⟨c, 0, none⟩), .agg #[.int .i64 a.kind, .string (str a.A), .string (str a.B), .int .i64 a.n, .slice fa a.faults.length fc, .int .i64 a.k, .slice ba a.bytes.length bc]] w _

  by_cases hk0 : a.kind = 0
  · have HP := Lib.hid (fun (W : World) (T : Dk) (D : Duo H' wb W b c S T) => (show Calls Try.prog 26 #[.pointer (some ⟨b, 0, none⟩), .string (str a.A)] W (DuoEnd H' wb b c (S.createS a.A) T (.int .i64 (S.createE a.A))) from D.create hI hS hj a.A ha.1))
    have HQ := Lib.hid (fun (W : World) (T : Dk) (D : Duo H' wb W b c T S) => (show Calls Try.prog 38 #[.pointer (some ⟨c, 0, none⟩), .string (str a.A)] W (DuoEnd H' wb b c T (S.createS a.A) (.int .i64 (S.createE a.A))) from D.rcreate hI hS hj a.A))
    have HR := Lib.hid (fun (W : World) (hd : Duo H' wb W b c (S.createS a.A) (S.createS a.A)) => (show Duo H w1 W b c (doS S a) (doS S a) from by rw [show doS S a = S.createS a.A from by unfold doS;  rw [if_pos hk0]]; exact HF.out _ _ hd))
    rw [hk0] at hwb ⊢
    clear hk0
    go_enter Try.func20, Try.ntmps20
    go_wp2_with fail
    rw [← hwb]
    clear hwb
    refine wp_region_held_drew (S := (fun W => W.cell? ⟨w.heap.size, 1, none⟩ = some (.string (str a.A)) ∧ W.cell? ⟨w.heap.size, 2, none⟩ = some (.string (str a.B)) ∧ W.cell? ⟨w.heap.size, 3, none⟩ = some (.int .i64 a.n))) (by kernel_rfl) ?_ (fun hHeld => ?_)
    · first | exact HBX.out _ HD.out.2 | exact HBX.out _ HD.out.drew.2
    refine wpAnyH_take (i := 0) (oi := (Go.Oper.mk (some 19) (Go.Op.move (Go.Operand.tmp 0)) 28 _ #[] none)) (v := ?_) rfl (by kernel_rfl) (by kernel_rfl) (by kernel_rfl) (fun _ _ _ h => h) (Or.inl ⟨by rfl, ?_⟩) hHeld ?_
    rotate_left
    · intro w hSw; (try dsimp only at hSw); go_simp; (try with_reducible rfl)
    simp only [Act.put, List.setIfInBounds_toArray, List.set_cons_zero, List.set_cons_succ]
    refine wpAnyH_take (i := 1) (oi := (Go.Oper.mk (some 20) (Go.Op.fieldAddr 42 (Go.Operand.tmp 5) 1) 0 _ #[] none)) (v := ?_) rfl (by kernel_rfl) (by kernel_rfl) (by kernel_rfl) (fun _ _ _ h => h) (Or.inl ⟨by rfl, ?_⟩) hHeld ?_
    rotate_left
    · intro w hSw; (try dsimp only at hSw); go_simp; (try with_reducible rfl)
    simp only [Act.put, List.setIfInBounds_toArray, List.set_cons_zero, List.set_cons_succ]
    refine wpAnyH_take (i := 2) (oi := (Go.Oper.mk (some 21) (Go.Op.load 9 (Go.Operand.tmp 20)) 9 _ #[Go.Edge.mk 1 Go.Ground.data] none)) (v := ?_) rfl (by kernel_rfl) (by kernel_rfl) (by kernel_rfl) (fun _ _ _ h => h) (Or.inl ⟨by rfl, ?_⟩) hHeld ?_
    rotate_left
    · intro w hSw; (try dsimp only at hSw); go_simp; (try with_reducible rfl)
    simp only [Act.put, List.setIfInBounds_toArray, List.set_cons_zero, List.set_cons_succ]
    refine wpAnyH_take (i := 4) (oi := (Go.Oper.mk (some 23) (Go.Op.move (Go.Operand.tmp 1)) 47 _ #[] none)) (v := ?_) rfl (by kernel_rfl) (by kernel_rfl) (by kernel_rfl) (fun _ _ _ h => h) (Or.inl ⟨by rfl, ?_⟩) hHeld ?_
    rotate_left
    · intro w hSw; (try dsimp only at hSw); go_simp; (try with_reducible rfl)
    simp only [Act.put, List.setIfInBounds_toArray, List.set_cons_zero, List.set_cons_succ]
    refine wpAnyH_take (i := 5) (oi := (Go.Oper.mk (some 24) (Go.Op.fieldAddr 42 (Go.Operand.tmp 5) 1) 0 _ #[] none)) (v := ?_) rfl (by kernel_rfl) (by kernel_rfl) (by kernel_rfl) (fun _ _ _ h => h) (Or.inl ⟨by rfl, ?_⟩) hHeld ?_
    rotate_left
    · intro w hSw; (try dsimp only at hSw); go_simp; (try with_reducible rfl)
    simp only [Act.put, List.setIfInBounds_toArray, List.set_cons_zero, List.set_cons_succ]
    refine wpAnyH_take (i := 6) (oi := (Go.Oper.mk (some 25) (Go.Op.load 9 (Go.Operand.tmp 24)) 9 _ #[Go.Edge.mk 5 Go.Ground.data] none)) (v := ?_) rfl (by kernel_rfl) (by kernel_rfl) (by kernel_rfl) (fun _ _ _ h => h) (Or.inl ⟨by rfl, ?_⟩) hHeld ?_
    rotate_left
    · intro w hSw; (try dsimp only at hSw); go_simp; (try with_reducible rfl)
    simp only [Act.put, List.setIfInBounds_toArray, List.set_cons_zero, List.set_cons_succ]
    refine wpAnyH_ready (rs := [3]) (by kernel_rfl) (by simp) ?_
    refine (AllReadyH.cons (o := (Go.Oper.mk (some 22) (Go.Op.call (Go.Call.mk (Go.Callee.value (Go.Operand.func 26)) #[Go.Operand.tmp 19, Go.Operand.tmp 21] #[28, 9])) 35 _ #[Go.Edge.mk 0 Go.Ground.data, Go.Edge.mk 2 Go.Ground.data] none)) rfl (fun K hK => ?_) AllReadyH.nil)
    · skip
      go_simp
      ((refine Calls.mono (HP.out _ _ (by first | exact HD.out | exact HD.out.drew)) ?_); rintro e w2 ⟨rfl, hd⟩; replace HD := Lib.hid hd; clear hd)
      go_wp2_with fail
      refine hK.out _ _ ?_ (fun hHeld => ?_)
      · first | exact HBX.out _ HD.out.2 | exact HBX.out _ HD.out.drew.2
      clear hK K
      (try simp only [Act.put, List.setIfInBounds_toArray, List.set_cons_zero, List.set_cons_succ])
      refine wpAnyH_ready (rs := [7]) (by kernel_rfl) (by simp) ?_
      refine (AllReadyH.cons (o := (Go.Oper.mk (some 26) (Go.Op.call (Go.Call.mk (Go.Callee.value (Go.Operand.func 38)) #[Go.Operand.tmp 23, Go.Operand.tmp 25] #[47, 9])) 3 _ #[Go.Edge.mk 4 Go.Ground.data, Go.Edge.mk 6 Go.Ground.data, Go.Edge.mk 3 Go.Ground.chain] none)) rfl (fun K hK => ?_) AllReadyH.nil)
      · skip
        go_simp
        ((refine Calls.mono (HQ.out _ _ (by first | exact HD.out | exact HD.out.drew)) ?_); rintro e w2 ⟨rfl, hd⟩; replace HD := Lib.hid hd; clear hd)
        go_wp2_with fail
        refine hK.out _ _ ?_ (fun hHeld => ?_)
        · first | exact HBX.out _ HD.out.2 | exact HBX.out _ HD.out.drew.2
        clear hK K
        (try simp only [Act.put, List.setIfInBounds_toArray, List.set_cons_zero, List.set_cons_succ])
        refine wpAnyH_take (i := 8) (oi := (Go.Oper.mk (some 27) (Go.Op.binOp Go.BinOp.eql 3 (Go.Operand.tmp 22) (Go.Operand.tmp 26) 3) 4 _ #[Go.Edge.mk 3 Go.Ground.data, Go.Edge.mk 7 Go.Ground.data] none)) (v := ?_) rfl (by kernel_rfl) (by kernel_rfl) (by kernel_rfl) (fun _ _ _ h => h) (Or.inl ⟨by rfl, ?_⟩) hHeld ?_
        rotate_left
        · intro w hSw; (try dsimp only at hSw); go_simp; (try with_reducible rfl)
        simp only [Act.put, List.setIfInBounds_toArray, List.set_cons_zero, List.set_cons_succ]
        refine wpAnyH_take (i := 9) (oi := (Go.Oper.mk (some 6) (Go.Op.assign (Go.Operand.tmp 27)) 4 _ #[Go.Edge.mk 8 Go.Ground.data, Go.Edge.mk 7 Go.Ground.chain, Go.Edge.mk 0 Go.Ground.phase, Go.Edge.mk 1 Go.Ground.phase, Go.Edge.mk 2 Go.Ground.phase, Go.Edge.mk 3 Go.Ground.phase, Go.Edge.mk 4 Go.Ground.phase, Go.Edge.mk 5 Go.Ground.phase, Go.Edge.mk 6 Go.Ground.phase, Go.Edge.mk 7 Go.Ground.phase, Go.Edge.mk 8 Go.Ground.phase] none)) (v := ?_) rfl (by kernel_rfl) (by kernel_rfl) (by kernel_rfl) (fun _ _ _ h => h) (Or.inl ⟨by rfl, ?_⟩) hHeld ?_
        rotate_left
        · intro w hSw; (try dsimp only at hSw); go_simp; (try with_reducible rfl)
        simp only [Act.put, List.setIfInBounds_toArray, List.set_cons_zero, List.set_cons_succ]
        refine wpAnyH_done (by kernel_rfl) ?_ _
        go_wp2
        go_ret
        exact ⟨rfl, HR.out _ HD.out⟩
  by_cases hk1 : a.kind = 1
  · have HP := Lib.hid (fun (W : World) (D : Duo H' wb W b c S S) => D.append hI hS hj a.A a.B ha.1 ha.2.1)
    have HQ := Lib.hid (fun (W : World) (D : Duo H' wb W b c (S.appendS a.A a.B) S) => D.rappend hI hS hj a.A a.B ha.2.1)
    have HR := Lib.hid (fun (W : World) (hd : Duo H' wb W b c (S.appendS a.A a.B) (S.appendS a.A a.B)) => (show Duo H w1 W b c (doS S a) (doS S a) from by rw [show doS S a = S.appendS a.A a.B from by unfold doS; rw [if_neg (by omega)]; rw [if_pos hk1]]; exact HF.out _ _ hd))
    rw [hk1] at hwb ⊢
    clear hk1
    go_enter Try.func20, Try.ntmps20
    go_wp2_with fail
    rw [← hwb]
    clear hwb
    ((refine Calls.mono (HP.out _ HD.out) ?_); rintro e w2 ⟨rfl, hd⟩; replace HD := Lib.hid hd; obtain ⟨q1, q2, q3⟩ := HBX.out _ hd.2; clear hd)
    go_wp2_with fail
    ((refine Calls.mono (HQ.out _ HD.out) ?_); rintro e w3 ⟨rfl, hd⟩; replace HD := Lib.hid hd; clear hd)
    go_wp2
    go_ret
    exact ⟨rfl, HR.out _ HD.out⟩
  by_cases hk2 : a.kind = 2
  · have HP := Lib.hid (fun (W : World) (T : Dk) (D : Duo H' wb W b c S T) => (show Calls Try.prog 29 #[.pointer (some ⟨b, 0, none⟩), .string (str a.A), .int .i64 a.n] W (DuoEnd H' wb b c (S.truncS a.A a.n) T (.int .i64 (S.appendE a.A))) from D.trunc hI hS hj a.A a.n ha.1))
    have HQ := Lib.hid (fun (W : World) (T : Dk) (D : Duo H' wb W b c T S) => (show Calls Try.prog 40 #[.pointer (some ⟨c, 0, none⟩), .string (str a.A), .int .i64 a.n] W (DuoEnd H' wb b c T (S.truncS a.A a.n) (.int .i64 (S.appendE a.A))) from D.rtrunc hI hS hj a.A a.n))
    have HR := Lib.hid (fun (W : World) (hd : Duo H' wb W b c (S.truncS a.A a.n) (S.truncS a.A a.n)) => (show Duo H w1 W b c (doS S a) (doS S a) from by rw [show doS S a = S.truncS a.A a.n from by unfold doS; rw [if_neg (by omega)]; rw [if_neg (by omega)]; rw [if_pos hk2]]; exact HF.out _ _ hd))
    rw [hk2] at hwb ⊢
    clear hk2
    go_enter Try.func20, Try.ntmps20
    go_wp2_with fail
    rw [← hwb]
    clear hwb
    refine wp_region_held_drew (S := (fun W => W.cell? ⟨w.heap.size, 1, none⟩ = some (.string (str a.A)) ∧ W.cell? ⟨w.heap.size, 2, none⟩ = some (.string (str a.B)) ∧ W.cell? ⟨w.heap.size, 3, none⟩ = some (.int .i64 a.n))) (by kernel_rfl) ?_ (fun hHeld => ?_)
    · first | exact HBX.out _ HD.out.2 | exact HBX.out _ HD.out.drew.2
    refine wpAnyH_take (i := 0) (oi := (Go.Oper.mk (some 58) (Go.Op.move (Go.Operand.tmp 0)) 28 _ #[] none)) (v := ?_) rfl (by kernel_rfl) (by kernel_rfl) (by kernel_rfl) (fun _ _ _ h => h) (Or.inl ⟨by rfl, ?_⟩) hHeld ?_
    rotate_left
    · intro w hSw; (try dsimp only at hSw); go_simp; (try with_reducible rfl)
    simp only [Act.put, List.setIfInBounds_toArray, List.set_cons_zero, List.set_cons_succ]
    refine wpAnyH_take (i := 1) (oi := (Go.Oper.mk (some 59) (Go.Op.fieldAddr 42 (Go.Operand.tmp 5) 1) 0 _ #[] none)) (v := ?_) rfl (by kernel_rfl) (by kernel_rfl) (by kernel_rfl) (fun _ _ _ h => h) (Or.inl ⟨by rfl, ?_⟩) hHeld ?_
    rotate_left
    · intro w hSw; (try dsimp only at hSw); go_simp; (try with_reducible rfl)
    simp only [Act.put, List.setIfInBounds_toArray, List.set_cons_zero, List.set_cons_succ]
    refine wpAnyH_take (i := 2) (oi := (Go.Oper.mk (some 60) (Go.Op.load 9 (Go.Operand.tmp 59)) 9 _ #[Go.Edge.mk 1 Go.Ground.data] none)) (v := ?_) rfl (by kernel_rfl) (by kernel_rfl) (by kernel_rfl) (fun _ _ _ h => h) (Or.inl ⟨by rfl, ?_⟩) hHeld ?_
    rotate_left
    · intro w hSw; (try dsimp only at hSw); go_simp; (try with_reducible rfl)
    simp only [Act.put, List.setIfInBounds_toArray, List.set_cons_zero, List.set_cons_succ]
    refine wpAnyH_take (i := 3) (oi := (Go.Oper.mk (some 61) (Go.Op.fieldAddr 42 (Go.Operand.tmp 5) 3) 0 _ #[] none)) (v := ?_) rfl (by kernel_rfl) (by kernel_rfl) (by kernel_rfl) (fun _ _ _ h => h) (Or.inl ⟨by rfl, ?_⟩) hHeld ?_
    rotate_left
    · intro w hSw; (try dsimp only at hSw); go_simp; (try with_reducible rfl)
    simp only [Act.put, List.setIfInBounds_toArray, List.set_cons_zero, List.set_cons_succ]
    refine wpAnyH_take (i := 4) (oi := (Go.Oper.mk (some 62) (Go.Op.load 3 (Go.Operand.tmp 61)) 3 _ #[Go.Edge.mk 3 Go.Ground.data] none)) (v := ?_) rfl (by kernel_rfl) (by kernel_rfl) (by kernel_rfl) (fun _ _ _ h => h) (Or.inl ⟨by rfl, ?_⟩) hHeld ?_
    rotate_left
    · intro w hSw; (try dsimp only at hSw); go_simp; (try with_reducible rfl)
    simp only [Act.put, List.setIfInBounds_toArray, List.set_cons_zero, List.set_cons_succ]
    refine wpAnyH_take (i := 6) (oi := (Go.Oper.mk (some 64) (Go.Op.move (Go.Operand.tmp 1)) 47 _ #[] none)) (v := ?_) rfl (by kernel_rfl) (by kernel_rfl) (by kernel_rfl) (fun _ _ _ h => h) (Or.inl ⟨by rfl, ?_⟩) hHeld ?_
    rotate_left
    · intro w hSw; (try dsimp only at hSw); go_simp; (try with_reducible rfl)
    simp only [Act.put, List.setIfInBounds_toArray, List.set_cons_zero, List.set_cons_succ]
    refine wpAnyH_take (i := 7) (oi := (Go.Oper.mk (some 65) (Go.Op.fieldAddr 42 (Go.Operand.tmp 5) 1) 0 _ #[] none)) (v := ?_) rfl (by kernel_rfl) (by kernel_rfl) (by kernel_rfl) (fun _ _ _ h => h) (Or.inl ⟨by rfl, ?_⟩) hHeld ?_
    rotate_left
    · intro w hSw; (try dsimp only at hSw); go_simp; (try with_reducible rfl)
    simp only [Act.put, List.setIfInBounds_toArray, List.set_cons_zero, List.set_cons_succ]
    refine wpAnyH_take (i := 8) (oi := (Go.Oper.mk (some 66) (Go.Op.load 9 (Go.Operand.tmp 65)) 9 _ #[Go.Edge.mk 7 Go.Ground.data] none)) (v := ?_) rfl (by kernel_rfl) (by kernel_rfl) (by kernel_rfl) (fun _ _ _ h => h) (Or.inl ⟨by rfl, ?_⟩) hHeld ?_
    rotate_left
    · intro w hSw; (try dsimp only at hSw); go_simp; (try with_reducible rfl)
    simp only [Act.put, List.setIfInBounds_toArray, List.set_cons_zero, List.set_cons_succ]
    refine wpAnyH_take (i := 9) (oi := (Go.Oper.mk (some 67) (Go.Op.fieldAddr 42 (Go.Operand.tmp 5) 3) 0 _ #[] none)) (v := ?_) rfl (by kernel_rfl) (by kernel_rfl) (by kernel_rfl) (fun _ _ _ h => h) (Or.inl ⟨by rfl, ?_⟩) hHeld ?_
    rotate_left
    · intro w hSw; (try dsimp only at hSw); go_simp; (try with_reducible rfl)
    simp only [Act.put, List.setIfInBounds_toArray, List.set_cons_zero, List.set_cons_succ]
    refine wpAnyH_take (i := 10) (oi := (Go.Oper.mk (some 68) (Go.Op.load 3 (Go.Operand.tmp 67)) 3 _ #[Go.Edge.mk 9 Go.Ground.data] none)) (v := ?_) rfl (by kernel_rfl) (by kernel_rfl) (by kernel_rfl) (fun _ _ _ h => h) (Or.inl ⟨by rfl, ?_⟩) hHeld ?_
    rotate_left
    · intro w hSw; (try dsimp only at hSw); go_simp; (try with_reducible rfl)
    simp only [Act.put, List.setIfInBounds_toArray, List.set_cons_zero, List.set_cons_succ]
    refine wpAnyH_ready (rs := [5]) (by kernel_rfl) (by simp) ?_
    refine (AllReadyH.cons (o := (Go.Oper.mk (some 63) (Go.Op.call (Go.Call.mk (Go.Callee.value (Go.Operand.func 29)) #[Go.Operand.tmp 58, Go.Operand.tmp 60, Go.Operand.tmp 62] #[28, 9, 3])) 35 _ #[Go.Edge.mk 0 Go.Ground.data, Go.Edge.mk 2 Go.Ground.data, Go.Edge.mk 4 Go.Ground.data] none)) rfl (fun K hK => ?_) AllReadyH.nil)
    · skip
      go_simp
      ((refine Calls.mono (HP.out _ _ (by first | exact HD.out | exact HD.out.drew)) ?_); rintro e w2 ⟨rfl, hd⟩; replace HD := Lib.hid hd; clear hd)
      go_wp2_with fail
      refine hK.out _ _ ?_ (fun hHeld => ?_)
      · first | exact HBX.out _ HD.out.2 | exact HBX.out _ HD.out.drew.2
      clear hK K
      (try simp only [Act.put, List.setIfInBounds_toArray, List.set_cons_zero, List.set_cons_succ])
      refine wpAnyH_ready (rs := [11]) (by kernel_rfl) (by simp) ?_
      refine (AllReadyH.cons (o := (Go.Oper.mk (some 69) (Go.Op.call (Go.Call.mk (Go.Callee.value (Go.Operand.func 40)) #[Go.Operand.tmp 64, Go.Operand.tmp 66, Go.Operand.tmp 68] #[47, 9, 3])) 3 _ #[Go.Edge.mk 6 Go.Ground.data, Go.Edge.mk 8 Go.Ground.data, Go.Edge.mk 10 Go.Ground.data, Go.Edge.mk 5 Go.Ground.chain] none)) rfl (fun K hK => ?_) AllReadyH.nil)
      · skip
        go_simp
        ((refine Calls.mono (HQ.out _ _ (by first | exact HD.out | exact HD.out.drew)) ?_); rintro e w2 ⟨rfl, hd⟩; replace HD := Lib.hid hd; clear hd)
        go_wp2_with fail
        refine hK.out _ _ ?_ (fun hHeld => ?_)
        · first | exact HBX.out _ HD.out.2 | exact HBX.out _ HD.out.drew.2
        clear hK K
        (try simp only [Act.put, List.setIfInBounds_toArray, List.set_cons_zero, List.set_cons_succ])
        refine wpAnyH_take (i := 12) (oi := (Go.Oper.mk (some 70) (Go.Op.binOp Go.BinOp.eql 3 (Go.Operand.tmp 63) (Go.Operand.tmp 69) 3) 4 _ #[Go.Edge.mk 5 Go.Ground.data, Go.Edge.mk 11 Go.Ground.data] none)) (v := ?_) rfl (by kernel_rfl) (by kernel_rfl) (by kernel_rfl) (fun _ _ _ h => h) (Or.inl ⟨by rfl, ?_⟩) hHeld ?_
        rotate_left
        · intro w hSw; (try dsimp only at hSw); go_simp; (try with_reducible rfl)
        simp only [Act.put, List.setIfInBounds_toArray, List.set_cons_zero, List.set_cons_succ]
        refine wpAnyH_take (i := 13) (oi := (Go.Oper.mk (some 6) (Go.Op.assign (Go.Operand.tmp 70)) 4 _ #[Go.Edge.mk 12 Go.Ground.data, Go.Edge.mk 11 Go.Ground.chain, Go.Edge.mk 0 Go.Ground.phase, Go.Edge.mk 1 Go.Ground.phase, Go.Edge.mk 2 Go.Ground.phase, Go.Edge.mk 3 Go.Ground.phase, Go.Edge.mk 4 Go.Ground.phase, Go.Edge.mk 5 Go.Ground.phase, Go.Edge.mk 6 Go.Ground.phase, Go.Edge.mk 7 Go.Ground.phase, Go.Edge.mk 8 Go.Ground.phase, Go.Edge.mk 9 Go.Ground.phase, Go.Edge.mk 10 Go.Ground.phase, Go.Edge.mk 11 Go.Ground.phase, Go.Edge.mk 12 Go.Ground.phase] none)) (v := ?_) rfl (by kernel_rfl) (by kernel_rfl) (by kernel_rfl) (fun _ _ _ h => h) (Or.inl ⟨by rfl, ?_⟩) hHeld ?_
        rotate_left
        · intro w hSw; (try dsimp only at hSw); go_simp; (try with_reducible rfl)
        simp only [Act.put, List.setIfInBounds_toArray, List.set_cons_zero, List.set_cons_succ]
        refine wpAnyH_done (by kernel_rfl) ?_ _
        go_wp2
        go_ret
        exact ⟨rfl, HR.out _ HD.out⟩
  by_cases hk3 : a.kind = 3
  · have HP := Lib.hid (fun (W : World) (T : Dk) (D : Duo H' wb W b c S T) => (show Calls Try.prog 17 #[.pointer (some ⟨b, 0, none⟩), .string (str a.A)] W (DuoEnd H' wb b c (S.syncS a.A) T (.int .i64 (S.appendE a.A))) from D.sync hI hS hj a.A ha.1))
    have HQ := Lib.hid (fun (W : World) (T : Dk) (D : Duo H' wb W b c T S) => (show Calls Try.prog 41 #[.pointer (some ⟨c, 0, none⟩), .string (str a.A)] W (DuoEnd H' wb b c T (S.syncS a.A) (.int .i64 (S.appendE a.A))) from D.rsync hI hS hj a.A))
    have HR := Lib.hid (fun (W : World) (hd : Duo H' wb W b c (S.syncS a.A) (S.syncS a.A)) => (show Duo H w1 W b c (doS S a) (doS S a) from by rw [show doS S a = S.syncS a.A from by unfold doS; rw [if_neg (by omega)]; rw [if_neg (by omega)]; rw [if_neg (by omega)]; rw [if_pos hk3]]; exact HF.out _ _ hd))
    rw [hk3] at hwb ⊢
    clear hk3
    go_enter Try.func20, Try.ntmps20
    go_wp2_with fail
    rw [← hwb]
    clear hwb
    refine wp_region_held_drew (S := (fun W => W.cell? ⟨w.heap.size, 1, none⟩ = some (.string (str a.A)) ∧ W.cell? ⟨w.heap.size, 2, none⟩ = some (.string (str a.B)) ∧ W.cell? ⟨w.heap.size, 3, none⟩ = some (.int .i64 a.n))) (by kernel_rfl) ?_ (fun hHeld => ?_)
    · first | exact HBX.out _ HD.out.2 | exact HBX.out _ HD.out.drew.2
    refine wpAnyH_take (i := 0) (oi := (Go.Oper.mk (some 73) (Go.Op.move (Go.Operand.tmp 0)) 28 _ #[] none)) (v := ?_) rfl (by kernel_rfl) (by kernel_rfl) (by kernel_rfl) (fun _ _ _ h => h) (Or.inl ⟨by rfl, ?_⟩) hHeld ?_
    rotate_left
    · intro w hSw; (try dsimp only at hSw); go_simp; (try with_reducible rfl)
    simp only [Act.put, List.setIfInBounds_toArray, List.set_cons_zero, List.set_cons_succ]
    refine wpAnyH_take (i := 1) (oi := (Go.Oper.mk (some 74) (Go.Op.fieldAddr 42 (Go.Operand.tmp 5) 1) 0 _ #[] none)) (v := ?_) rfl (by kernel_rfl) (by kernel_rfl) (by kernel_rfl) (fun _ _ _ h => h) (Or.inl ⟨by rfl, ?_⟩) hHeld ?_
    rotate_left
    · intro w hSw; (try dsimp only at hSw); go_simp; (try with_reducible rfl)
    simp only [Act.put, List.setIfInBounds_toArray, List.set_cons_zero, List.set_cons_succ]
    refine wpAnyH_take (i := 2) (oi := (Go.Oper.mk (some 75) (Go.Op.load 9 (Go.Operand.tmp 74)) 9 _ #[Go.Edge.mk 1 Go.Ground.data] none)) (v := ?_) rfl (by kernel_rfl) (by kernel_rfl) (by kernel_rfl) (fun _ _ _ h => h) (Or.inl ⟨by rfl, ?_⟩) hHeld ?_
    rotate_left
    · intro w hSw; (try dsimp only at hSw); go_simp; (try with_reducible rfl)
    simp only [Act.put, List.setIfInBounds_toArray, List.set_cons_zero, List.set_cons_succ]
    refine wpAnyH_take (i := 4) (oi := (Go.Oper.mk (some 77) (Go.Op.move (Go.Operand.tmp 1)) 47 _ #[] none)) (v := ?_) rfl (by kernel_rfl) (by kernel_rfl) (by kernel_rfl) (fun _ _ _ h => h) (Or.inl ⟨by rfl, ?_⟩) hHeld ?_
    rotate_left
    · intro w hSw; (try dsimp only at hSw); go_simp; (try with_reducible rfl)
    simp only [Act.put, List.setIfInBounds_toArray, List.set_cons_zero, List.set_cons_succ]
    refine wpAnyH_take (i := 5) (oi := (Go.Oper.mk (some 78) (Go.Op.fieldAddr 42 (Go.Operand.tmp 5) 1) 0 _ #[] none)) (v := ?_) rfl (by kernel_rfl) (by kernel_rfl) (by kernel_rfl) (fun _ _ _ h => h) (Or.inl ⟨by rfl, ?_⟩) hHeld ?_
    rotate_left
    · intro w hSw; (try dsimp only at hSw); go_simp; (try with_reducible rfl)
    simp only [Act.put, List.setIfInBounds_toArray, List.set_cons_zero, List.set_cons_succ]
    refine wpAnyH_take (i := 6) (oi := (Go.Oper.mk (some 79) (Go.Op.load 9 (Go.Operand.tmp 78)) 9 _ #[Go.Edge.mk 5 Go.Ground.data] none)) (v := ?_) rfl (by kernel_rfl) (by kernel_rfl) (by kernel_rfl) (fun _ _ _ h => h) (Or.inl ⟨by rfl, ?_⟩) hHeld ?_
    rotate_left
    · intro w hSw; (try dsimp only at hSw); go_simp; (try with_reducible rfl)
    simp only [Act.put, List.setIfInBounds_toArray, List.set_cons_zero, List.set_cons_succ]
    refine wpAnyH_ready (rs := [3]) (by kernel_rfl) (by simp) ?_
    refine (AllReadyH.cons (o := (Go.Oper.mk (some 76) (Go.Op.call (Go.Call.mk (Go.Callee.value (Go.Operand.func 17)) #[Go.Operand.tmp 73, Go.Operand.tmp 75] #[28, 9])) 35 _ #[Go.Edge.mk 0 Go.Ground.data, Go.Edge.mk 2 Go.Ground.data] none)) rfl (fun K hK => ?_) AllReadyH.nil)
    · skip
      go_simp
      ((refine Calls.mono (HP.out _ _ (by first | exact HD.out | exact HD.out.drew)) ?_); rintro e w2 ⟨rfl, hd⟩; replace HD := Lib.hid hd; clear hd)
      go_wp2_with fail
      refine hK.out _ _ ?_ (fun hHeld => ?_)
      · first | exact HBX.out _ HD.out.2 | exact HBX.out _ HD.out.drew.2
      clear hK K
      (try simp only [Act.put, List.setIfInBounds_toArray, List.set_cons_zero, List.set_cons_succ])
      refine wpAnyH_ready (rs := [7]) (by kernel_rfl) (by simp) ?_
      refine (AllReadyH.cons (o := (Go.Oper.mk (some 80) (Go.Op.call (Go.Call.mk (Go.Callee.value (Go.Operand.func 41)) #[Go.Operand.tmp 77, Go.Operand.tmp 79] #[47, 9])) 3 _ #[Go.Edge.mk 4 Go.Ground.data, Go.Edge.mk 6 Go.Ground.data, Go.Edge.mk 3 Go.Ground.chain] none)) rfl (fun K hK => ?_) AllReadyH.nil)
      · skip
        go_simp
        ((refine Calls.mono (HQ.out _ _ (by first | exact HD.out | exact HD.out.drew)) ?_); rintro e w2 ⟨rfl, hd⟩; replace HD := Lib.hid hd; clear hd)
        go_wp2_with fail
        refine hK.out _ _ ?_ (fun hHeld => ?_)
        · first | exact HBX.out _ HD.out.2 | exact HBX.out _ HD.out.drew.2
        clear hK K
        (try simp only [Act.put, List.setIfInBounds_toArray, List.set_cons_zero, List.set_cons_succ])
        refine wpAnyH_take (i := 8) (oi := (Go.Oper.mk (some 81) (Go.Op.binOp Go.BinOp.eql 3 (Go.Operand.tmp 76) (Go.Operand.tmp 80) 3) 4 _ #[Go.Edge.mk 3 Go.Ground.data, Go.Edge.mk 7 Go.Ground.data] none)) (v := ?_) rfl (by kernel_rfl) (by kernel_rfl) (by kernel_rfl) (fun _ _ _ h => h) (Or.inl ⟨by rfl, ?_⟩) hHeld ?_
        rotate_left
        · intro w hSw; (try dsimp only at hSw); go_simp; (try with_reducible rfl)
        simp only [Act.put, List.setIfInBounds_toArray, List.set_cons_zero, List.set_cons_succ]
        refine wpAnyH_take (i := 9) (oi := (Go.Oper.mk (some 6) (Go.Op.assign (Go.Operand.tmp 81)) 4 _ #[Go.Edge.mk 8 Go.Ground.data, Go.Edge.mk 7 Go.Ground.chain, Go.Edge.mk 0 Go.Ground.phase, Go.Edge.mk 1 Go.Ground.phase, Go.Edge.mk 2 Go.Ground.phase, Go.Edge.mk 3 Go.Ground.phase, Go.Edge.mk 4 Go.Ground.phase, Go.Edge.mk 5 Go.Ground.phase, Go.Edge.mk 6 Go.Ground.phase, Go.Edge.mk 7 Go.Ground.phase, Go.Edge.mk 8 Go.Ground.phase] none)) (v := ?_) rfl (by kernel_rfl) (by kernel_rfl) (by kernel_rfl) (fun _ _ _ h => h) (Or.inl ⟨by rfl, ?_⟩) hHeld ?_
        rotate_left
        · intro w hSw; (try dsimp only at hSw); go_simp; (try with_reducible rfl)
        simp only [Act.put, List.setIfInBounds_toArray, List.set_cons_zero, List.set_cons_succ]
        refine wpAnyH_done (by kernel_rfl) ?_ _
        go_wp2
        go_ret
        exact ⟨rfl, HR.out _ HD.out⟩
  by_cases hk4 : a.kind = 4
  · have HP := Lib.hid (fun (W : World) (T : Dk) (D : Duo H' wb W b c S T) => (show Calls Try.prog 30 #[.pointer (some ⟨b, 0, none⟩), .string (str a.A), .string (str a.B)] W (DuoEnd H' wb b c (S.renameS a.A a.B) T (.int .i64 (S.renameE a.A a.B))) from D.rename hI hS hj a.A a.B ha.1 ha.2.1))
    have HQ := Lib.hid (fun (W : World) (T : Dk) (D : Duo H' wb W b c T S) => (show Calls Try.prog 42 #[.pointer (some ⟨c, 0, none⟩), .string (str a.A), .string (str a.B)] W (DuoEnd H' wb b c T (S.renameS a.A a.B) (.int .i64 (S.renameE a.A a.B))) from D.rrename hI hS hj a.A a.B))
    have HR := Lib.hid (fun (W : World) (hd : Duo H' wb W b c (S.renameS a.A a.B) (S.renameS a.A a.B)) => (show Duo H w1 W b c (doS S a) (doS S a) from by rw [show doS S a = S.renameS a.A a.B from by unfold doS; rw [if_neg (by omega)]; rw [if_neg (by omega)]; rw [if_neg (by omega)]; rw [if_neg (by omega)]; rw [if_pos hk4]]; exact HF.out _ _ hd))
    rw [hk4] at hwb ⊢
    clear hk4
    go_enter Try.func20, Try.ntmps20
    go_wp2_with fail
    rw [← hwb]
    clear hwb
    refine wp_region_held_drew (S := (fun W => W.cell? ⟨w.heap.size, 1, none⟩ = some (.string (str a.A)) ∧ W.cell? ⟨w.heap.size, 2, none⟩ = some (.string (str a.B)) ∧ W.cell? ⟨w.heap.size, 3, none⟩ = some (.int .i64 a.n))) (by kernel_rfl) ?_ (fun hHeld => ?_)
    · first | exact HBX.out _ HD.out.2 | exact HBX.out _ HD.out.drew.2
    refine wpAnyH_take (i := 0) (oi := (Go.Oper.mk (some 84) (Go.Op.move (Go.Operand.tmp 0)) 28 _ #[] none)) (v := ?_) rfl (by kernel_rfl) (by kernel_rfl) (by kernel_rfl) (fun _ _ _ h => h) (Or.inl ⟨by rfl, ?_⟩) hHeld ?_
    rotate_left
    · intro w hSw; (try dsimp only at hSw); go_simp; (try with_reducible rfl)
    simp only [Act.put, List.setIfInBounds_toArray, List.set_cons_zero, List.set_cons_succ]
    refine wpAnyH_take (i := 1) (oi := (Go.Oper.mk (some 85) (Go.Op.fieldAddr 42 (Go.Operand.tmp 5) 1) 0 _ #[] none)) (v := ?_) rfl (by kernel_rfl) (by kernel_rfl) (by kernel_rfl) (fun _ _ _ h => h) (Or.inl ⟨by rfl, ?_⟩) hHeld ?_
    rotate_left
    · intro w hSw; (try dsimp only at hSw); go_simp; (try with_reducible rfl)
    simp only [Act.put, List.setIfInBounds_toArray, List.set_cons_zero, List.set_cons_succ]
    refine wpAnyH_take (i := 2) (oi := (Go.Oper.mk (some 86) (Go.Op.load 9 (Go.Operand.tmp 85)) 9 _ #[Go.Edge.mk 1 Go.Ground.data] none)) (v := ?_) rfl (by kernel_rfl) (by kernel_rfl) (by kernel_rfl) (fun _ _ _ h => h) (Or.inl ⟨by rfl, ?_⟩) hHeld ?_
    rotate_left
    · intro w hSw; (try dsimp only at hSw); go_simp; (try with_reducible rfl)
    simp only [Act.put, List.setIfInBounds_toArray, List.set_cons_zero, List.set_cons_succ]
    refine wpAnyH_take (i := 3) (oi := (Go.Oper.mk (some 87) (Go.Op.fieldAddr 42 (Go.Operand.tmp 5) 2) 0 _ #[] none)) (v := ?_) rfl (by kernel_rfl) (by kernel_rfl) (by kernel_rfl) (fun _ _ _ h => h) (Or.inl ⟨by rfl, ?_⟩) hHeld ?_
    rotate_left
    · intro w hSw; (try dsimp only at hSw); go_simp; (try with_reducible rfl)
    simp only [Act.put, List.setIfInBounds_toArray, List.set_cons_zero, List.set_cons_succ]
    refine wpAnyH_take (i := 4) (oi := (Go.Oper.mk (some 88) (Go.Op.load 9 (Go.Operand.tmp 87)) 9 _ #[Go.Edge.mk 3 Go.Ground.data] none)) (v := ?_) rfl (by kernel_rfl) (by kernel_rfl) (by kernel_rfl) (fun _ _ _ h => h) (Or.inl ⟨by rfl, ?_⟩) hHeld ?_
    rotate_left
    · intro w hSw; (try dsimp only at hSw); go_simp; (try with_reducible rfl)
    simp only [Act.put, List.setIfInBounds_toArray, List.set_cons_zero, List.set_cons_succ]
    refine wpAnyH_take (i := 6) (oi := (Go.Oper.mk (some 90) (Go.Op.move (Go.Operand.tmp 1)) 47 _ #[] none)) (v := ?_) rfl (by kernel_rfl) (by kernel_rfl) (by kernel_rfl) (fun _ _ _ h => h) (Or.inl ⟨by rfl, ?_⟩) hHeld ?_
    rotate_left
    · intro w hSw; (try dsimp only at hSw); go_simp; (try with_reducible rfl)
    simp only [Act.put, List.setIfInBounds_toArray, List.set_cons_zero, List.set_cons_succ]
    refine wpAnyH_take (i := 7) (oi := (Go.Oper.mk (some 91) (Go.Op.fieldAddr 42 (Go.Operand.tmp 5) 1) 0 _ #[] none)) (v := ?_) rfl (by kernel_rfl) (by kernel_rfl) (by kernel_rfl) (fun _ _ _ h => h) (Or.inl ⟨by rfl, ?_⟩) hHeld ?_
    rotate_left
    · intro w hSw; (try dsimp only at hSw); go_simp; (try with_reducible rfl)
    simp only [Act.put, List.setIfInBounds_toArray, List.set_cons_zero, List.set_cons_succ]
    refine wpAnyH_take (i := 8) (oi := (Go.Oper.mk (some 92) (Go.Op.load 9 (Go.Operand.tmp 91)) 9 _ #[Go.Edge.mk 7 Go.Ground.data] none)) (v := ?_) rfl (by kernel_rfl) (by kernel_rfl) (by kernel_rfl) (fun _ _ _ h => h) (Or.inl ⟨by rfl, ?_⟩) hHeld ?_
    rotate_left
    · intro w hSw; (try dsimp only at hSw); go_simp; (try with_reducible rfl)
    simp only [Act.put, List.setIfInBounds_toArray, List.set_cons_zero, List.set_cons_succ]
    refine wpAnyH_take (i := 9) (oi := (Go.Oper.mk (some 93) (Go.Op.fieldAddr 42 (Go.Operand.tmp 5) 2) 0 _ #[] none)) (v := ?_) rfl (by kernel_rfl) (by kernel_rfl) (by kernel_rfl) (fun _ _ _ h => h) (Or.inl ⟨by rfl, ?_⟩) hHeld ?_
    rotate_left
    · intro w hSw; (try dsimp only at hSw); go_simp; (try with_reducible rfl)
    simp only [Act.put, List.setIfInBounds_toArray, List.set_cons_zero, List.set_cons_succ]
    refine wpAnyH_take (i := 10) (oi := (Go.Oper.mk (some 94) (Go.Op.load 9 (Go.Operand.tmp 93)) 9 _ #[Go.Edge.mk 9 Go.Ground.data] none)) (v := ?_) rfl (by kernel_rfl) (by kernel_rfl) (by kernel_rfl) (fun _ _ _ h => h) (Or.inl ⟨by rfl, ?_⟩) hHeld ?_
    rotate_left
    · intro w hSw; (try dsimp only at hSw); go_simp; (try with_reducible rfl)
    simp only [Act.put, List.setIfInBounds_toArray, List.set_cons_zero, List.set_cons_succ]
    refine wpAnyH_ready (rs := [5]) (by kernel_rfl) (by simp) ?_
    refine (AllReadyH.cons (o := (Go.Oper.mk (some 89) (Go.Op.call (Go.Call.mk (Go.Callee.value (Go.Operand.func 30)) #[Go.Operand.tmp 84, Go.Operand.tmp 86, Go.Operand.tmp 88] #[28, 9, 9])) 35 _ #[Go.Edge.mk 0 Go.Ground.data, Go.Edge.mk 2 Go.Ground.data, Go.Edge.mk 4 Go.Ground.data] none)) rfl (fun K hK => ?_) AllReadyH.nil)
    · skip
      go_simp
      ((refine Calls.mono (HP.out _ _ (by first | exact HD.out | exact HD.out.drew)) ?_); rintro e w2 ⟨rfl, hd⟩; replace HD := Lib.hid hd; clear hd)
      go_wp2_with fail
      refine hK.out _ _ ?_ (fun hHeld => ?_)
      · first | exact HBX.out _ HD.out.2 | exact HBX.out _ HD.out.drew.2
      clear hK K
      (try simp only [Act.put, List.setIfInBounds_toArray, List.set_cons_zero, List.set_cons_succ])
      refine wpAnyH_ready (rs := [11]) (by kernel_rfl) (by simp) ?_
      refine (AllReadyH.cons (o := (Go.Oper.mk (some 95) (Go.Op.call (Go.Call.mk (Go.Callee.value (Go.Operand.func 42)) #[Go.Operand.tmp 90, Go.Operand.tmp 92, Go.Operand.tmp 94] #[47, 9, 9])) 3 _ #[Go.Edge.mk 6 Go.Ground.data, Go.Edge.mk 8 Go.Ground.data, Go.Edge.mk 10 Go.Ground.data, Go.Edge.mk 5 Go.Ground.chain] none)) rfl (fun K hK => ?_) AllReadyH.nil)
      · skip
        go_simp
        ((refine Calls.mono (HQ.out _ _ (by first | exact HD.out | exact HD.out.drew)) ?_); rintro e w2 ⟨rfl, hd⟩; replace HD := Lib.hid hd; clear hd)
        go_wp2_with fail
        refine hK.out _ _ ?_ (fun hHeld => ?_)
        · first | exact HBX.out _ HD.out.2 | exact HBX.out _ HD.out.drew.2
        clear hK K
        (try simp only [Act.put, List.setIfInBounds_toArray, List.set_cons_zero, List.set_cons_succ])
        refine wpAnyH_take (i := 12) (oi := (Go.Oper.mk (some 96) (Go.Op.binOp Go.BinOp.eql 3 (Go.Operand.tmp 89) (Go.Operand.tmp 95) 3) 4 _ #[Go.Edge.mk 5 Go.Ground.data, Go.Edge.mk 11 Go.Ground.data] none)) (v := ?_) rfl (by kernel_rfl) (by kernel_rfl) (by kernel_rfl) (fun _ _ _ h => h) (Or.inl ⟨by rfl, ?_⟩) hHeld ?_
        rotate_left
        · intro w hSw; (try dsimp only at hSw); go_simp; (try with_reducible rfl)
        simp only [Act.put, List.setIfInBounds_toArray, List.set_cons_zero, List.set_cons_succ]
        refine wpAnyH_take (i := 13) (oi := (Go.Oper.mk (some 6) (Go.Op.assign (Go.Operand.tmp 96)) 4 _ #[Go.Edge.mk 12 Go.Ground.data, Go.Edge.mk 11 Go.Ground.chain, Go.Edge.mk 0 Go.Ground.phase, Go.Edge.mk 1 Go.Ground.phase, Go.Edge.mk 2 Go.Ground.phase, Go.Edge.mk 3 Go.Ground.phase, Go.Edge.mk 4 Go.Ground.phase, Go.Edge.mk 5 Go.Ground.phase, Go.Edge.mk 6 Go.Ground.phase, Go.Edge.mk 7 Go.Ground.phase, Go.Edge.mk 8 Go.Ground.phase, Go.Edge.mk 9 Go.Ground.phase, Go.Edge.mk 10 Go.Ground.phase, Go.Edge.mk 11 Go.Ground.phase, Go.Edge.mk 12 Go.Ground.phase] none)) (v := ?_) rfl (by kernel_rfl) (by kernel_rfl) (by kernel_rfl) (fun _ _ _ h => h) (Or.inl ⟨by rfl, ?_⟩) hHeld ?_
        rotate_left
        · intro w hSw; (try dsimp only at hSw); go_simp; (try with_reducible rfl)
        simp only [Act.put, List.setIfInBounds_toArray, List.set_cons_zero, List.set_cons_succ]
        refine wpAnyH_done (by kernel_rfl) ?_ _
        go_wp2
        go_ret
        exact ⟨rfl, HR.out _ HD.out⟩
  by_cases hk5 : a.kind = 5
  · have HP := Lib.hid (fun (W : World) (T : Dk) (D : Duo H' wb W b c S T) => (show Calls Try.prog 31 #[.pointer (some ⟨b, 0, none⟩), .string (str a.A)] W (DuoEnd H' wb b c (S.removeS a.A) T (.int .i64 (S.appendE a.A))) from D.remove hI hS hj a.A ha.1))
    have HQ := Lib.hid (fun (W : World) (T : Dk) (D : Duo H' wb W b c T S) => (show Calls Try.prog 43 #[.pointer (some ⟨c, 0, none⟩), .string (str a.A)] W (DuoEnd H' wb b c T (S.removeS a.A) (.int .i64 (S.appendE a.A))) from D.rremove hI hS hj a.A))
    have HR := Lib.hid (fun (W : World) (hd : Duo H' wb W b c (S.removeS a.A) (S.removeS a.A)) => (show Duo H w1 W b c (doS S a) (doS S a) from by rw [show doS S a = S.removeS a.A from by unfold doS; rw [if_neg (by omega)]; rw [if_neg (by omega)]; rw [if_neg (by omega)]; rw [if_neg (by omega)]; rw [if_neg (by omega)]; rw [if_pos hk5]]; exact HF.out _ _ hd))
    rw [hk5] at hwb ⊢
    clear hk5
    go_enter Try.func20, Try.ntmps20
    go_wp2_with fail
    rw [← hwb]
    clear hwb
    refine wp_region_held_drew (S := (fun W => W.cell? ⟨w.heap.size, 1, none⟩ = some (.string (str a.A)) ∧ W.cell? ⟨w.heap.size, 2, none⟩ = some (.string (str a.B)) ∧ W.cell? ⟨w.heap.size, 3, none⟩ = some (.int .i64 a.n))) (by kernel_rfl) ?_ (fun hHeld => ?_)
    · first | exact HBX.out _ HD.out.2 | exact HBX.out _ HD.out.drew.2
    refine wpAnyH_take (i := 0) (oi := (Go.Oper.mk (some 99) (Go.Op.move (Go.Operand.tmp 0)) 28 _ #[] none)) (v := ?_) rfl (by kernel_rfl) (by kernel_rfl) (by kernel_rfl) (fun _ _ _ h => h) (Or.inl ⟨by rfl, ?_⟩) hHeld ?_
    rotate_left
    · intro w hSw; (try dsimp only at hSw); go_simp; (try with_reducible rfl)
    simp only [Act.put, List.setIfInBounds_toArray, List.set_cons_zero, List.set_cons_succ]
    refine wpAnyH_take (i := 1) (oi := (Go.Oper.mk (some 100) (Go.Op.fieldAddr 42 (Go.Operand.tmp 5) 1) 0 _ #[] none)) (v := ?_) rfl (by kernel_rfl) (by kernel_rfl) (by kernel_rfl) (fun _ _ _ h => h) (Or.inl ⟨by rfl, ?_⟩) hHeld ?_
    rotate_left
    · intro w hSw; (try dsimp only at hSw); go_simp; (try with_reducible rfl)
    simp only [Act.put, List.setIfInBounds_toArray, List.set_cons_zero, List.set_cons_succ]
    refine wpAnyH_take (i := 2) (oi := (Go.Oper.mk (some 101) (Go.Op.load 9 (Go.Operand.tmp 100)) 9 _ #[Go.Edge.mk 1 Go.Ground.data] none)) (v := ?_) rfl (by kernel_rfl) (by kernel_rfl) (by kernel_rfl) (fun _ _ _ h => h) (Or.inl ⟨by rfl, ?_⟩) hHeld ?_
    rotate_left
    · intro w hSw; (try dsimp only at hSw); go_simp; (try with_reducible rfl)
    simp only [Act.put, List.setIfInBounds_toArray, List.set_cons_zero, List.set_cons_succ]
    refine wpAnyH_take (i := 4) (oi := (Go.Oper.mk (some 103) (Go.Op.move (Go.Operand.tmp 1)) 47 _ #[] none)) (v := ?_) rfl (by kernel_rfl) (by kernel_rfl) (by kernel_rfl) (fun _ _ _ h => h) (Or.inl ⟨by rfl, ?_⟩) hHeld ?_
    rotate_left
    · intro w hSw; (try dsimp only at hSw); go_simp; (try with_reducible rfl)
    simp only [Act.put, List.setIfInBounds_toArray, List.set_cons_zero, List.set_cons_succ]
    refine wpAnyH_take (i := 5) (oi := (Go.Oper.mk (some 104) (Go.Op.fieldAddr 42 (Go.Operand.tmp 5) 1) 0 _ #[] none)) (v := ?_) rfl (by kernel_rfl) (by kernel_rfl) (by kernel_rfl) (fun _ _ _ h => h) (Or.inl ⟨by rfl, ?_⟩) hHeld ?_
    rotate_left
    · intro w hSw; (try dsimp only at hSw); go_simp; (try with_reducible rfl)
    simp only [Act.put, List.setIfInBounds_toArray, List.set_cons_zero, List.set_cons_succ]
    refine wpAnyH_take (i := 6) (oi := (Go.Oper.mk (some 105) (Go.Op.load 9 (Go.Operand.tmp 104)) 9 _ #[Go.Edge.mk 5 Go.Ground.data] none)) (v := ?_) rfl (by kernel_rfl) (by kernel_rfl) (by kernel_rfl) (fun _ _ _ h => h) (Or.inl ⟨by rfl, ?_⟩) hHeld ?_
    rotate_left
    · intro w hSw; (try dsimp only at hSw); go_simp; (try with_reducible rfl)
    simp only [Act.put, List.setIfInBounds_toArray, List.set_cons_zero, List.set_cons_succ]
    refine wpAnyH_ready (rs := [3]) (by kernel_rfl) (by simp) ?_
    refine (AllReadyH.cons (o := (Go.Oper.mk (some 102) (Go.Op.call (Go.Call.mk (Go.Callee.value (Go.Operand.func 31)) #[Go.Operand.tmp 99, Go.Operand.tmp 101] #[28, 9])) 35 _ #[Go.Edge.mk 0 Go.Ground.data, Go.Edge.mk 2 Go.Ground.data] none)) rfl (fun K hK => ?_) AllReadyH.nil)
    · skip
      go_simp
      ((refine Calls.mono (HP.out _ _ (by first | exact HD.out | exact HD.out.drew)) ?_); rintro e w2 ⟨rfl, hd⟩; replace HD := Lib.hid hd; clear hd)
      go_wp2_with fail
      refine hK.out _ _ ?_ (fun hHeld => ?_)
      · first | exact HBX.out _ HD.out.2 | exact HBX.out _ HD.out.drew.2
      clear hK K
      (try simp only [Act.put, List.setIfInBounds_toArray, List.set_cons_zero, List.set_cons_succ])
      refine wpAnyH_ready (rs := [7]) (by kernel_rfl) (by simp) ?_
      refine (AllReadyH.cons (o := (Go.Oper.mk (some 106) (Go.Op.call (Go.Call.mk (Go.Callee.value (Go.Operand.func 43)) #[Go.Operand.tmp 103, Go.Operand.tmp 105] #[47, 9])) 3 _ #[Go.Edge.mk 4 Go.Ground.data, Go.Edge.mk 6 Go.Ground.data, Go.Edge.mk 3 Go.Ground.chain] none)) rfl (fun K hK => ?_) AllReadyH.nil)
      · skip
        go_simp
        ((refine Calls.mono (HQ.out _ _ (by first | exact HD.out | exact HD.out.drew)) ?_); rintro e w2 ⟨rfl, hd⟩; replace HD := Lib.hid hd; clear hd)
        go_wp2_with fail
        refine hK.out _ _ ?_ (fun hHeld => ?_)
        · first | exact HBX.out _ HD.out.2 | exact HBX.out _ HD.out.drew.2
        clear hK K
        (try simp only [Act.put, List.setIfInBounds_toArray, List.set_cons_zero, List.set_cons_succ])
        refine wpAnyH_take (i := 8) (oi := (Go.Oper.mk (some 107) (Go.Op.binOp Go.BinOp.eql 3 (Go.Operand.tmp 102) (Go.Operand.tmp 106) 3) 4 _ #[Go.Edge.mk 3 Go.Ground.data, Go.Edge.mk 7 Go.Ground.data] none)) (v := ?_) rfl (by kernel_rfl) (by kernel_rfl) (by kernel_rfl) (fun _ _ _ h => h) (Or.inl ⟨by rfl, ?_⟩) hHeld ?_
        rotate_left
        · intro w hSw; (try dsimp only at hSw); go_simp; (try with_reducible rfl)
        simp only [Act.put, List.setIfInBounds_toArray, List.set_cons_zero, List.set_cons_succ]
        refine wpAnyH_take (i := 9) (oi := (Go.Oper.mk (some 6) (Go.Op.assign (Go.Operand.tmp 107)) 4 _ #[Go.Edge.mk 8 Go.Ground.data, Go.Edge.mk 7 Go.Ground.chain, Go.Edge.mk 0 Go.Ground.phase, Go.Edge.mk 1 Go.Ground.phase, Go.Edge.mk 2 Go.Ground.phase, Go.Edge.mk 3 Go.Ground.phase, Go.Edge.mk 4 Go.Ground.phase, Go.Edge.mk 5 Go.Ground.phase, Go.Edge.mk 6 Go.Ground.phase, Go.Edge.mk 7 Go.Ground.phase, Go.Edge.mk 8 Go.Ground.phase] none)) (v := ?_) rfl (by kernel_rfl) (by kernel_rfl) (by kernel_rfl) (fun _ _ _ h => h) (Or.inl ⟨by rfl, ?_⟩) hHeld ?_
        rotate_left
        · intro w hSw; (try dsimp only at hSw); go_simp; (try with_reducible rfl)
        simp only [Act.put, List.setIfInBounds_toArray, List.set_cons_zero, List.set_cons_succ]
        refine wpAnyH_done (by kernel_rfl) ?_ _
        go_wp2
        go_ret
        exact ⟨rfl, HR.out _ HD.out⟩
  by_cases hk6 : a.kind = 6
  · have HP := Lib.hid (fun (W : World) (D : Duo H' wb W b c S S) => D.syncNames hI hS hj)
    have HQ := Lib.hid (fun (W : World) (D : Duo H' wb W b c S.namesS S) => D.rsyncNames hI hS hj)
    have HR := Lib.hid (fun (W : World) (hd : Duo H' wb W b c S.namesS S.namesS) => (show Duo H w1 W b c (doS S a) (doS S a) from by rw [show doS S a = S.namesS from by unfold doS; rw [if_neg (by omega)]; rw [if_neg (by omega)]; rw [if_neg (by omega)]; rw [if_neg (by omega)]; rw [if_neg (by omega)]; rw [if_neg (by omega)]; rw [if_pos hk6]]; exact HF.out _ _ hd))
    rw [hk6] at hwb ⊢
    clear hk6
    go_enter Try.func20, Try.ntmps20
    go_wp2_with fail
    rw [← hwb]
    clear hwb
    ((refine Calls.mono (HP.out _ HD.out) ?_); rintro e w2 ⟨rfl, hd⟩; replace HD := Lib.hid hd; clear hd)
    go_wp2_with fail
    ((refine Calls.mono (HQ.out _ HD.out) ?_); rintro e w3 ⟨rfl, hd⟩; replace HD := Lib.hid hd; clear hd)
    go_wp2
    go_ret
    exact ⟨rfl, HR.out _ HD.out⟩
  by_cases hk7 : a.kind = 7
  · have HR := Lib.hid (fun (W : World) (hd : Duo H' wb W b c (S.planS a.faults) (S.planS a.faults)) => (show Duo H w1 W b c (doS S a) (doS S a) from by rw [show doS S a = S.planS a.faults from by unfold doS; rw [if_neg (by omega)]; rw [if_neg (by omega)]; rw [if_neg (by omega)]; rw [if_neg (by omega)]; rw [if_neg (by omega)]; rw [if_neg (by omega)]; rw [if_neg (by omega)]; rw [if_pos hk7]]; exact HF.out _ _ hd))
    have hfl : a.faults.length ≤ 4194304 := by have := ha.2.2.1; omega
    have HB4 := Lib.hid (show ∀ W, Wr H' wb W → W.cell? ⟨w.heap.size, 4, none⟩ = some (.slice fa a.faults.length fc) from fun W hW => by
      have := HB7.out W hW
      simp [World.cell?, this])
    have H2 := Lib.hid ((HQR.out wb (Wr.refl _ _)).below ((Below.refl wb.heap.size wb).alloc (Nat.le_refl _) (.cells #[] 58)))
    have H3 := Lib.hid (FRow.empty (B := wb.heap.size) (heap_alloc_new wb (.cells #[] 58)) (Nat.le_refl _))
    have H4 := Lib.hid ((Below.refl wb.heap.size wb).alloc (Nat.le_refl _) (.cells #[] 58))
    obtain ⟨i0, hi0, hz0, hz1, hz2⟩ := info_parts infoF
    have h63 : a.faults.length + 1 ≤ maxLen := by unfold maxLen; omega
    have hby : (a.faults.length + 1) * 24 ≤ 140737488355328 := by omega
    have hff0 : (0 : Int) ≤ (a.faults.length : Int) := by omega
    have hff1 : (a.faults.length : Int) < ((a.faults.length + 1 : Nat) : Int) := by omega
    rw [hk7] at hwb ⊢
    have hwbs : wb.heap.size = w.heap.size + 1 := by rw [hwb]; simp
    clear hk7
    go_enter Try.func20, Try.ntmps20
    go_wp2_with (at_builtin; show wpList _ _ _ _ _ _; refine Hid.out ?_)
    rw [← hwb]
    clear hwb
    refine Lib.hid ?_
    refine wpList_append_q (w0 := wb) rfl (.tmp 117) (.tmp 119) rfl a.faults (.slice (some ⟨wb.heap.size, 0, none⟩) 0 0) (.slice fa a.faults.length fc) (by first | rfl | simp [Act.eval, hwbs]) (by first | rfl | simp [Act.eval]) H3.out H2.out H4.out hfl ?_
    intro v1 wl m1 b1
    obtain ⟨a1, c1, rfl⟩ := m1.shape
    have HL := Lib.hid (And.intro m1 b1)
    have HL1 := Lib.hid (World.ownsRow.alloc (show wl.ownsRow wb.heap.size 58 3 (.slice a1 a.faults.length c1) a.faults.length (a.faults.flatMap flCells) from m1) (.cells #[.int .i64 77, .int .i64 0, .int .i64 0] 58))
    have hwl : wb.heap.size ≤ (wl.alloc (.cells #[.int .i64 77, .int .i64 0, .int .i64 0] 58)).heap.size := by have := b1.size; simp; omega
    clear m1 b1
    go_wp2_with (at_builtin; refine wpList_append_lies _ (by rfl) (.tmp 120) (.tmp 122) 40 (by rfl) wb.heap.size 58 i0 _ 3 24 Try.underlying40 hi0 hz0 hz1 hz2 rfl (by omega) (.slice a1 a.faults.length c1) a.faults.length (a.faults.flatMap flCells) (by simp [Act.eval]) HL1.out ⟨wl.heap.size, 0, none⟩ 1 1 [.int .i64 77, .int .i64 0, .int .i64 0] (by simp [Act.eval]) (by rfl) (World.news_of_block (cs := #[.int .i64 77, .int .i64 0, .int .i64 0]) (t := 58) (fr := (0, 0)) (heap_alloc_new wl _)) (by intro u hu; simp only [List.mem_cons, List.not_mem_nil, or_false] at hu; rcases hu with rfl | rfl | rfl <;> rfl) (by omega) h63 hby hwl _ rfl ?_; intro g cap w5 hown5 hgrow hat hlt5; have HM := Lib.hid (faults_more HL.out.1 HL.out.2 hown5 hgrow); have p4 := HB4.out w5 (Wr.of_below HM.out.2.1); have hcapI : ((a.faults.length : Nat) : Int) ≤ (cap : Int) := (by have := HM.out.2.2.2.2; omega); clear hown5 hgrow hat hlt5)
    ((refine Calls.mono ((HT.out.below HM.out.2.1).p fun F hF d => plan_any d hS (by omega) (.slice (some ⟨g, 0, none⟩) a.faults.length cap) a.faults (PRow.first HM.out.1.prow) hfl) ?_); rintro e w6 ⟨rfl, d6, r6⟩)
    have HgH := Lib.hid (show ¬ H' g from fun h => by have := HH2.out g h; have := HM.out.2.2.1; omega)
    have H6 := Lib.hid (And.intro d6 ((Wr.of_below HM.out.2.1).trans r6 (Grew.refl _ _)))
    have HG6 := Lib.hid ((Spoil.of HM.out.1).kept r6 HgH.out)
    have H77 := Lib.hid (show ∀ n, (w6.drewN n).cell? ⟨g, a.faults.length * 3, none⟩ = some (.int .i64 77) from fun n => by
      have hp := HM.out.1.prow
      obtain ⟨g', off, e, _, hg, c0, _⟩ := hp.at_ (show (a.faults ++ [((77 : Int), (0 : Int), (0 : Int))])[a.faults.length]? = some (77, 0, 0) by simp)
      simp only [Option.some.injEq, Addr.mk.injEq] at e
      obtain ⟨rfl, rfl, -⟩ := e
      rw [Nat.zero_add] at c0
      exact (World.cell?_of_block (r6.block g hg HgH.out)).trans c0)
    have p6 : w6.cell? ⟨w.heap.size, 4, none⟩ = some (.slice fa a.faults.length fc) := HB4.out w6 H6.out.2
    have c77 : w6.cell? ⟨g, a.faults.length * 3, none⟩ = some (.int .i64 77) := H77.out 0
    clear d6 r6 p4
    go_wp2_with fail
    go_loopw [13, 14] (fun s i wr => ∃ q : Nat, q ≤ a.faults.length ∧ s = .bool true ∧ i = .int .i64 q ∧ Hid (Two (fun k => H' k ∨ w5.heap.size ≤ k) wr b c (S.planS a.faults) S) ∧ Hid (Wr H' wb wr) ∧ Hid (Spoil wr g a.faults.length a.faults q)) (fun _ i _ => a.faults.length - (intOf i).toNat)
    case atStart => exact ⟨0, Nat.zero_le _, rfl, rfl, H6.out.1, H6.out.2, HG6.out⟩
    case round =>
      obtain ⟨q, hq, rfl, rfl, ht, hw, hs⟩ := hrel
      have p4 : ∀ n, (wr.drewN n).cell? ⟨w.heap.size, 4, none⟩ = some (.slice fa a.faults.length fc) := fun n => HB4.out wr hw.out
      have p40 : wr.cell? ⟨w.heap.size, 4, none⟩ = some (.slice fa a.faults.length fc) := p4 0
      by_cases hql : q < a.faults.length
      · obtain ⟨p, hp⟩ : ∃ p, a.faults[q]? = some p := ⟨_, List.getElem?_eq_getElem hql⟩
        obtain ⟨k0, k1, k2⟩ := hs.out.cell (Nat.le_refl q) hp
        obtain ⟨gf, off, ef, -, -, l0, l1, l2⟩ := (HQR.out wr hw.out).at_ hp
        subst ef
        obtain ⟨px, py, pz⟩ := p
        simp only at k0 k1 k2 l0 l1 l2
        have kd0 : ∀ n, (wr.drewN n).cell? ⟨g, q * 3, none⟩ = some (.int .i64 px) := fun n => k0
        have kd1 : ∀ n, (wr.drewN n).cell? ⟨g, q * 3 + 1, none⟩ = some (.int .i64 py) := fun n => k1
        have kd2 : ∀ n, (wr.drewN n).cell? ⟨g, q * 3 + 2, none⟩ = some (.int .i64 pz) := fun n => k2
        have ld0 : ∀ n, (wr.drewN n).cell? ⟨gf, off + q * 3, none⟩ = some (.int .i64 px) := fun n => l0
        have ld1 : ∀ n, (wr.drewN n).cell? ⟨gf, off + q * 3 + 1, none⟩ = some (.int .i64 py) := fun n => l1
        have ld2 : ∀ n, (wr.drewN n).cell? ⟨gf, off + q * 3 + 2, none⟩ = some (.int .i64 pz) := fun n => l2
        have hqI : (q : Int) < (a.faults.length : Int) := by omega
        have hqI2 : (q : Int) < ((a.faults.length + 1 : Nat) : Int) := by omega
        have hq0 : (0 : Int) ≤ (q : Int) := by omega
        clear hp
        have z0 : ∀ o, wr.frozen? ⟨g, o, none⟩ = false := fun o => hs.out.free o
        have hgne : ∀ k, (H' k ∨ w5.heap.size ≤ k) → k ≠ g := fun k hk e => by
          subst e
          exact hk.elim HgH.out (fun h => by have := HM.out.2.2.2.1; omega)
        have HN := Lib.hid (fun n => spoilt (q := q) (Two.below ht.out (below_drewN (Below.refl _ _) n)) (Wr.drewN hw.out n) (Spoil.kept (F := fun _ => False) hs.out (Wr.of_below (below_drewN (Below.refl _ _) n)) (fun h => h)) hgne HM.out.2.2.1)
        clear hgne
        go_wp2_with fail
        go_quiet (fail)
        go_wp2
        go_roundw
        case rel => exact ⟨q + 1, by omega, by go_num, by go_num, (HN.out _).1, (HN.out _).2.1, (HN.out _).2.2⟩
        case measure => simp [intOf]; omega
      · obtain rfl : q = a.faults.length := by omega
        have HDu := Lib.hid (show Duo H' wb wr b c (S.planS a.faults) S from ⟨ht.out.mono fun k hk => hk.imp id fun h => Nat.le_trans HM.out.2.1.size h, hw.out⟩)
        clear hs
        go_wp2_with fail
        ((refine Calls.mono (HDu.out.rset hS hj _ a.faults (HQR.out wr hw.out) hfl) ?_); rintro e w7 ⟨rfl, hd⟩; replace HD := Lib.hid hd; clear hd)
        go_wp2
        go_ret
        exact ⟨rfl, HR.out _ HD.out⟩
  by_cases hk8 : a.kind = 8
  · have HR := Lib.hid (fun (W : World) (hd : Duo H' wb W b c (S.crashS a.k a.bytes) (S.crashS a.k a.bytes)) => (show Duo H w1 W b c (doS S a) (doS S a) from by rw [show doS S a = S.crashS a.k a.bytes from by unfold doS; rw [if_neg (by omega)]; rw [if_neg (by omega)]; rw [if_neg (by omega)]; rw [if_neg (by omega)]; rw [if_neg (by omega)]; rw [if_neg (by omega)]; rw [if_neg (by omega)]; rw [if_neg (by omega)]; rw [if_pos hk8]]; exact HF.out _ _ hd))
    have hbl : a.bytes.length ≤ 4194304 := by have := ha.2.2.2; omega
    have HB2 := Lib.hid (show ∀ W, Wr H' wb W → W.cell? ⟨w.heap.size, 5, none⟩ = some (.int .i64 a.k) ∧ W.cell? ⟨w.heap.size, 6, none⟩ = some (.slice ba a.bytes.length bc) from fun W hW => by
      have := HB7.out W hW
      exact ⟨by simp [World.cell?, this], by simp [World.cell?, this]⟩)
    have HO := Lib.hid (show ORow ((wb.alloc (.cells #[] 3)).drew) wb.heap.size (.slice (some ⟨wb.heap.size, 0, none⟩) 0 0) [] from ORow.empty (heap_alloc_new wb (.cells #[] 3)) (Nat.le_refl _))
    have HOB := Lib.hid (((Below.refl wb.heap.size wb).alloc (Nat.le_refl _) (.cells #[] 3)).drew)
    rw [hk8] at hwb ⊢
    clear hk8
    go_enter Try.func20, Try.ntmps20
    go_wp2_with fail
    rw [← hwb]
    clear hwb
    refine wp_region_held_drew (S := (fun W => W.cell? ⟨w.heap.size, 5, none⟩ = some (.int .i64 a.k) ∧ W.cell? ⟨w.heap.size, 6, none⟩ = some (.slice ba a.bytes.length bc))) (by kernel_rfl) ?_ (fun hHeld => ?_)
    · first | exact HB2.out _ ((Wr.refl _ _).drewN 1) | exact HB2.out _ (Wr.of_below HOB.out)
    refine wpAnyH_take (i := 0) (oi := (Go.Oper.mk (some 174) (Go.Op.move (Go.Operand.tmp 0)) 28 _ #[] none)) (v := ?_) rfl (by kernel_rfl) (by kernel_rfl) (by kernel_rfl) (fun _ _ _ h => h) (Or.inl ⟨by rfl, ?_⟩) hHeld ?_
    rotate_left
    · intro w hSw; (try dsimp only at hSw); go_simp; (try with_reducible rfl)
    simp only [Act.put, List.setIfInBounds_toArray, List.set_cons_zero, List.set_cons_succ]
    refine wpAnyH_take (i := 1) (oi := (Go.Oper.mk (some 175) (Go.Op.fieldAddr 42 (Go.Operand.tmp 5) 5) 0 _ #[] none)) (v := ?_) rfl (by kernel_rfl) (by kernel_rfl) (by kernel_rfl) (fun _ _ _ h => h) (Or.inl ⟨by rfl, ?_⟩) hHeld ?_
    rotate_left
    · intro w hSw; (try dsimp only at hSw); go_simp; (try with_reducible rfl)
    simp only [Act.put, List.setIfInBounds_toArray, List.set_cons_zero, List.set_cons_succ]
    refine wpAnyH_take (i := 2) (oi := (Go.Oper.mk (some 176) (Go.Op.fieldAddr 24 (Go.Operand.tmp 175) 0) 0 _ #[Go.Edge.mk 1 Go.Ground.data] none)) (v := ?_) rfl (by kernel_rfl) (by kernel_rfl) (by kernel_rfl) (fun _ _ _ h => h) (Or.inl ⟨by rfl, ?_⟩) hHeld ?_
    rotate_left
    · intro w hSw; (try dsimp only at hSw); go_simp; (try with_reducible rfl)
    simp only [Act.put, List.setIfInBounds_toArray, List.set_cons_zero, List.set_cons_succ]
    refine wpAnyH_take (i := 3) (oi := (Go.Oper.mk (some 177) (Go.Op.load 3 (Go.Operand.tmp 176)) 3 _ #[Go.Edge.mk 2 Go.Ground.data] none)) (v := ?_) rfl (by kernel_rfl) (by kernel_rfl) (by kernel_rfl) (fun _ _ _ h => h) (Or.inl ⟨by rfl, ?_⟩) hHeld ?_
    rotate_left
    · intro w hSw; (try dsimp only at hSw); go_simp; (try with_reducible rfl)
    simp only [Act.put, List.setIfInBounds_toArray, List.set_cons_zero, List.set_cons_succ]
    refine wpAnyH_take (i := 5) (oi := (Go.Oper.mk (some 179) (Go.Op.fieldAddr 42 (Go.Operand.tmp 5) 5) 0 _ #[] none)) (v := ?_) rfl (by kernel_rfl) (by kernel_rfl) (by kernel_rfl) (fun _ _ _ h => h) (Or.inl ⟨by rfl, ?_⟩) hHeld ?_
    rotate_left
    · intro w hSw; (try dsimp only at hSw); go_simp; (try with_reducible rfl)
    simp only [Act.put, List.setIfInBounds_toArray, List.set_cons_zero, List.set_cons_succ]
    refine wpAnyH_take (i := 6) (oi := (Go.Oper.mk (some 180) (Go.Op.fieldAddr 24 (Go.Operand.tmp 179) 1) 0 _ #[Go.Edge.mk 5 Go.Ground.data] none)) (v := ?_) rfl (by kernel_rfl) (by kernel_rfl) (by kernel_rfl) (fun _ _ _ h => h) (Or.inl ⟨by rfl, ?_⟩) hHeld ?_
    rotate_left
    · intro w hSw; (try dsimp only at hSw); go_simp; (try with_reducible rfl)
    simp only [Act.put, List.setIfInBounds_toArray, List.set_cons_zero, List.set_cons_succ]
    refine wpAnyH_take (i := 7) (oi := (Go.Oper.mk (some 181) (Go.Op.load 22 (Go.Operand.tmp 180)) 22 _ #[Go.Edge.mk 6 Go.Ground.data] none)) (v := ?_) rfl (by kernel_rfl) (by kernel_rfl) (by kernel_rfl) (fun _ _ _ h => h) (Or.inl ⟨by rfl, ?_⟩) hHeld ?_
    rotate_left
    · intro w hSw; (try dsimp only at hSw); go_simp; (try with_reducible rfl)
    simp only [Act.put, List.setIfInBounds_toArray, List.set_cons_zero, List.set_cons_succ]
    refine wpAnyH_ready (rs := [4]) (by kernel_rfl) (by simp) ?_
    refine (AllReadyH.cons (o := (Go.Oper.mk (some 178) (Go.Op.buildSlice 22 0 #[]) 22 _ #[] none)) rfl (fun K hK => ?_) AllReadyH.nil)
    · skip
      go_simp
      refine hK.out _ _ ?_ (fun hHeld => ?_)
      · first | exact HB2.out _ ((Wr.refl _ _).drewN 1) | exact HB2.out _ (Wr.of_below HOB.out)
      clear hK K
      (try simp only [Act.put, List.setIfInBounds_toArray, List.set_cons_zero, List.set_cons_succ])
      refine wpAnyH_ready (rs := [8]) (by kernel_rfl) (by simp) ?_
      refine (AllReadyH.cons (o := (Go.Oper.mk (some 182) (Go.Op.call (Go.Call.mk (Go.Callee.builtin Go.Builtin.append) #[Go.Operand.tmp 178, Go.Operand.tmp 181] #[22, 22])) 22 _ #[Go.Edge.mk 4 Go.Ground.data, Go.Edge.mk 7 Go.Ground.data] none)) rfl (fun K hK => ?_) AllReadyH.nil)
      · skip
        (refine step_append_ints (w0 := wb) rfl _ _ rfl a.bytes _ _ rfl rfl HO.out (HIR.out _ (Wr.of_below HOB.out)) HOB.out hbl ?_); intro v2 w2 o2 b2; obtain ⟨oa2, oc2, rfl⟩ := (ORow.irow o2).shape; have HM := Lib.hid (And.intro o2 b2); clear o2 b2
        refine hK.out _ _ ?_ (fun hHeld => ?_)
        · exact HB2.out _ (Wr.of_below HM.out.2)
        clear hK K
        (try simp only [Act.put, List.setIfInBounds_toArray, List.set_cons_zero, List.set_cons_succ])
        refine wpAnyH_take (i := 9) (oi := (Go.Oper.mk (some 183) (Go.Op.build 24 #[(0, Go.Operand.tmp 177), (1, Go.Operand.tmp 182)]) 24 _ #[Go.Edge.mk 3 Go.Ground.data, Go.Edge.mk 8 Go.Ground.data] none)) (v := ?_) rfl (by kernel_rfl) (by kernel_rfl) (by kernel_rfl) (fun _ _ _ h => h) (Or.inl ⟨by rfl, ?_⟩) hHeld ?_
        rotate_left
        · intro w hSw; (try dsimp only at hSw); go_simp; (try with_reducible rfl)
        simp only [Act.put, List.setIfInBounds_toArray, List.set_cons_zero, List.set_cons_succ]
        refine wpAnyH_ready (rs := [10]) (by kernel_rfl) (by simp) ?_
        refine (AllReadyH.cons (o := (Go.Oper.mk (some 184) (Go.Op.call (Go.Call.mk (Go.Callee.value (Go.Operand.func 12)) #[Go.Operand.tmp 174, Go.Operand.tmp 183] #[28, 24])) 0 _ #[Go.Edge.mk 0 Go.Ground.data, Go.Edge.mk 9 Go.Ground.data, Go.Edge.mk 8 Go.Ground.chain] none)) rfl (fun K hK => ?_) AllReadyH.nil)
        · skip
          go_simp
          ((refine Calls.mono ((HT.out.below HM.out.2).p fun F hF d => crash_any d hI hS (by omega) a.k _ a.bytes (ORow.irow HM.out.1) (fun x hx hf => by have := HH2.out x (hF x hf); omega) hbl) ?_); rintro e w3 hte; obtain ⟨rfl, hd⟩ := Duo.two hte HM.out.2; replace HD := Lib.hid hd; clear hd hte)
          go_wp2_with fail
          refine hK.out _ _ ?_ (fun hHeld => ?_)
          · exact HB2.out _ HD.out.2
          clear hK K
          (try simp only [Act.put, List.setIfInBounds_toArray, List.set_cons_zero, List.set_cons_succ])
          refine wpAnyH_done (by kernel_rfl) ?_ _
          obtain ⟨q5, q6⟩ := HB2.out _ HD.out.2
          go_wp2_with fail
          ((refine Calls.mono (HD.out.rcrash hI hS hj a.k _ a.bytes (HIR.out _ HD.out.2) HHK.out hbl) ?_); rintro e w4 ⟨rfl, hd⟩; replace HD := Lib.hid hd; clear hd)
          go_wp2
          go_ret
          exact ⟨rfl, HR.out _ HD.out⟩
  have f0 : (a.kind == 0) = false := by rw [beq_eq_false_iff_ne]; exact hk0
  have f1 : (a.kind == 1) = false := by rw [beq_eq_false_iff_ne]; exact hk1
  have f2 : (a.kind == 2) = false := by rw [beq_eq_false_iff_ne]; exact hk2
  have f3 : (a.kind == 3) = false := by rw [beq_eq_false_iff_ne]; exact hk3
  have f4 : (a.kind == 4) = false := by rw [beq_eq_false_iff_ne]; exact hk4
  have f5 : (a.kind == 5) = false := by rw [beq_eq_false_iff_ne]; exact hk5
  have f6 : (a.kind == 6) = false := by rw [beq_eq_false_iff_ne]; exact hk6
  have f7 : (a.kind == 7) = false := by rw [beq_eq_false_iff_ne]; exact hk7
  have f8 : (a.kind == 8) = false := by rw [beq_eq_false_iff_ne]; exact hk8
  have HR := Lib.hid (fun (W : World) (hd : Duo H' wb W b c S S) => (show Duo H w1 W b c (doS S a) (doS S a) from by rw [show doS S a = S from by unfold doS; repeat rw [if_neg (by assumption)]]; exact HF.out _ _ hd))
  clear hk0 hk1 hk2 hk3 hk4 hk5 hk6 hk7 hk8
  go_enter Try.func20, Try.ntmps20
  go_wp2
  go_ret
  rw [← hwb]
  exact ⟨rfl, HR.out _ HD.out⟩
end Go.Proofs.Ytbjlffhnkcbnmaa
