/- The walk of AofFinds, where lives are of bulk at most 1048576. -/
import Derived.Test.YtfbjmhipjfjaeaaGreatDoorM27
import Derived.Test.YtfbjmhipjfjaeaaGreatDoorM37
namespace Go.Proofs.YtfbjmhipjfjaeaaGreatDoor
open Go.ChangeShapes Go.WideShapes Go.ChangeAt Go.RowKit Go.Maps Pl
set_option linter.unusedVariables false
set_option linter.unusedSimpArgs false
/-- What lives weigh, the first k of them. -/
def wtL (xs : List Lf) (k : Nat) : Nat := ((xs.take k).map Lf.wt).sum
theorem wtL_succ {xs : List Lf} {k : Nat} {x : Lf} (hx : xs[k]? = some x) : wtL xs (k + 1) = wtL xs k + x.wt := by
  unfold wtL
  rw [List.take_add_one, hx]
  simp
theorem wtL_le (xs : List Lf) (k : Nat) : wtL xs k ≤ (xs.map Lf.wt).sum := by
  have e : xs = xs.take k ++ xs.drop k := (List.take_append_drop k xs).symm
  have : (xs.map Lf.wt).sum = wtL xs k + ((xs.drop k).map Lf.wt).sum := by
    conv => lhs; rw [e]
    unfold wtL; rw [List.map_append, List.sum_append]
  omega
theorem wtL_len (xs : List Lf) (k : Nat) (hk : k ≤ xs.length) : 8 * k ≤ wtL xs k := by
  have h : ∀ l : List Lf, 8 * l.length ≤ (l.map Lf.wt).sum := by
    intro l
    induction l with
    | nil => simp
    | cons x r ih =>
      have : 8 ≤ x.wt := by unfold Lf.wt; omega
      simp only [List.map_cons, List.sum_cons, List.length_cons]; omega
  have := h (xs.take k)
  rw [List.length_take] at this
  unfold wtL
  omega
/-- What was told of the first k lives. -/
def toldL (xs : List Lf) (k : Nat) : List Tx := (xs.take k).flatMap fun x => x.os.map Oq.body
theorem toldL_succ {xs : List Lf} {k : Nat} {x : Lf} (hx : xs[k]? = some x) : toldL xs (k + 1) = toldL xs k ++ x.os.map Oq.body := by
  unfold toldL
  rw [List.take_add_one, hx]
  simp
theorem wt_os (x : Lf) : wtO x.os + 8 * x.os.length + 8 ≤ x.wt := by
  have := opW_wtO x.os
  unfold Lf.wt
  omega
theorem toldL_bulk (xs : List Lf) (k : Nat) : bulkS ((toldL xs k).map str) ≤ wtL xs k := by
  unfold toldL wtL
  generalize xs.take k = l
  induction l with
  | nil => simp [bulkS]
  | cons x r ih =>
    have := wt_os x
    rw [List.flatMap_cons, List.map_append, bulkS_append, bulkS_bodies]
    simp only [List.map_cons, List.sum_cons]
    omega
theorem toldL_length (xs : List Lf) (k : Nat) : (toldL xs k).length ≤ wtL xs k := by
  have h1 := toldL_bulk xs k
  have h2 := bulkS_length ((toldL xs k).map str)
  rw [List.length_map] at h2
  omega
/-- The state between two lives. -/
structure FindAt (w wr : World) (b : Nat) (a : Addr) (S : Dk) (all : List Tx) (lo : Nat) (calm : Bool) (v : Value) (W : Nat) : Prop where
  dw : DW (fun k => w.heap.size ≤ k) wr b a S
  bel : Below w.heap.size w wr
  txt : Texts wr w.heap.size v all
  ready : Ready S all lo calm
  inv : S.Inv
  small : S.Small W
  len : all.length ≤ W
  sum : (all.map List.length).sum ≤ W
section
variable {a : Addr}
set_option maxRecDepth 100000 in
set_option maxHeartbeats 32000000 in
theorem aofFinds_walk (v : Value) (xs : List Lf) (hxs : (xs.map Lf.wt).sum ≤ 1048576) (w : World) (hv : LfRow w v xs) (hs : Sent w a) (h3 : 3 ≤ w.heap.size) :
    Calls Tryz.prog 6 #[v] w fun e w' => e = .returned (.bool true) ∧ Below w.heap.size w w' := by
  obtain ⟨ao, cp, rfl, hr⟩ := hv
  have HR := Lib.hid hr
  have HSure := Lib.hid (fun W (hb : Below w.heap.size w W) => sure_any (hs.kept (K := fun _ => False) (Wr.of_below hb) (by omega) (fun _ _ h => h)) (Nat.le_trans h3 hb.size))
  have HSent := Lib.hid (fun W (hb : Below w.heap.size w W) => And.intro (hs.kept (K := fun _ => False) (Wr.of_below hb) (by omega) (fun _ _ h => h)) (Nat.le_trans h3 hb.size))
  have hxl := wtL_len xs xs.length (Nat.le_refl _)
  have hxw := wtL_le xs xs.length
  clear hr hs
  go_enter Tryz.func6, Tryz.ntmps6
  go_wp2_with fail
  go_loopw [3, 4] (fun y i wr => ∃ (k : Nat) (yv : Value), k ≤ xs.length ∧ i = .int .i64 k ∧ yv = y ∧ Hid (Texts wr w.heap.size yv (toldL xs k)) ∧ Hid (Below w.heap.size w wr)) (fun _ i _ => xs.length - (intOf i).toNat)
  case atStart => exact ⟨0, _, Nat.zero_le _, rfl, rfl, World.ownsRow_nil _ _ _ _, Below.refl _ _⟩
  case round =>
    obtain ⟨k, yv, hk, rfl, rfl, hr, hw⟩ := hrel
    obtain ⟨wk, hwk⟩ : ∃ wk, wk = wr := ⟨_, rfl⟩
    subst hwk
    have hsz := hw.out.size
    by_cases hlt : k < xs.length
    · obtain ⟨x, hx⟩ : ∃ x, xs[k]? = some x := ⟨_, List.getElem?_eq_getElem hlt⟩
      rcases HR.out with rfl | ⟨g, off, rfl, hg, hc⟩
      · simp at hlt
      obtain ⟨fv, sv, bv, -, -, -, q3, -, -, -, hrow⟩ := hc k x hx
      have p3 : wk.cell? ⟨g, off + k * 7 + 3, none⟩ = some sv := (World.cell?_of_block (hw.out.block g hg)).trans q3
      have hkI : (k : Int) < (xs.length : Int) := by omega
      have hk0 : (0 : Int) ≤ (k : Int) := by omega
      have how := wt_os x
      have hws := wtL_succ hx
      have hwl := wtL_le xs (k + 1)
      have htl := toldL_length xs k
      have htl2 := toldL_length xs (k + 1)
      have hol := wtO_len x.os
      have HX := Lib.hid (toldL_succ hx)
      have HBo := Lib.hid (bodies_any sv x.os (by omega) wk (hrow.2.1.below ⟨hw.out.os, hw.out.tape, hw.out.output, hw.out.size, hw.out.block⟩))
      clear hc hx q3 hrow
      go_wp2_with fail
      refine HBo.out.mono ?_
      rintro e w2 ⟨tv, rfl, tx2, b2⟩
      have HT := Lib.hid (hr.out.below b2)
      have HW := Lib.hid (hw.out.trans (b2.mono hsz))
      have HU := Lib.hid tx2.tat
      clear tx2 b2
      go_wp2_with (at_builtin; refine wpList_append_told (w0 := w) rfl (.tmp 22) (.tmp 28) rfl (toldL xs k) (x.os.map Oq.body) yv tv rfl rfl HT.out HU.out HW.out (by rw [List.length_map]; omega) ?_)
      intro v2 w3 tx3 b3
      rw [← HX.out] at tx3
      have HO := Lib.hid tx3
      have HB := Lib.hid b3
      clear tx3 b3
      go_wp2
      go_roundw
      case rel => exact ⟨k + 1, _, by omega, by go_num, rfl, HO, HB⟩
      case measure => simp [intOf]; omega
    · obtain rfl : k = xs.length := by omega
      have htb := toldL_bulk xs xs.length
      have HLong := Lib.hid (long_any yv ((toldL xs xs.length).map str) (by omega) wk hr.out.tat.srow)
      obtain ⟨se1, se2⟩ := HSent.out wk hw.out
      have HNew := Lib.hid (new_dw se1 se2)
      clear se1
      go_wp2_with fail
      refine HLong.out.mono ?_
      rintro e w2 ⟨rfl, hq⟩
      obtain rfl := hq.symm
      clear hq
      go_wp2_with fail
      refine HNew.out.mono ?_
      rintro e w3 ⟨b, rfl, dw3, b3⟩
      have FD := Lib.hid (show FindAt w w3 b a Dk.new [] 0 false (.slice none 0 0) 0 from ⟨DW.since dw3 (fun k hk => Nat.le_trans hsz hk) h3, hw.out.trans (b3.mono hsz), World.ownsRow_nil _ _ _ _, .inl ⟨rfl, rfl, rfl, rfl⟩, Dk.Inv.new, Dk.Small.new, Nat.le_refl _, Nat.le_refl _⟩)
      clear dw3 b3
      go_wp2_with fail
      go_loopw [6, 7, 8, 9] (fun y lv cv i wr => ∃ (k : Nat) (S : Dk) (all : List Tx) (lo : Nat) (calm : Bool) (v : Value), k ≤ xs.length ∧ i = .int .i64 k ∧ v = y ∧ lv = .int .u64 lo ∧ cv = .bool calm ∧ Hid (FindAt w wr b a S all lo calm v (wtL xs k))) (fun _ _ _ i _ => xs.length - (intOf i).toNat)
      case atStart => exact ⟨0, _, _, 0, _, _, Nat.zero_le _, rfl, rfl, rfl, rfl, FD⟩
      case round =>
        obtain ⟨k, S, all, lo, calm, yv, hk, rfl, rfl, rfl, rfl, fd⟩ := hrel
        obtain ⟨wk, hwk⟩ : ∃ wk, wk = wr := ⟨_, rfl⟩
        subst hwk
        by_cases hlt : k < xs.length
        · obtain ⟨⟨pol, every, faults, os, ck, bytes, cm⟩, hx⟩ : ∃ x, xs[k]? = some x := ⟨_, List.getElem?_eq_getElem hlt⟩
          rcases HR.out with rfl | ⟨g, off, rfl, hg, hc⟩
          · simp at hlt
          obtain ⟨fv, sv, bv, q0, q1, q2, q3, q4, q5, q6, hqr, hor, hir, hev⟩ := hc k _ hx
          simp only at q0 q1 q4 q6 hqr hor hir hev
          obtain ⟨fa, fc, rfl⟩ := hqr.shape
          obtain ⟨sa, sc, rfl⟩ := hor.shape
          obtain ⟨ba, bc, rfl⟩ := hir.shape
          have hcell : ∀ o, wk.cell? ⟨g, o, none⟩ = w.cell? ⟨g, o, none⟩ := fun o => World.cell?_of_block (fd.out.bel.block g hg)
          have p0 := (hcell _).trans q0
          have p1 := (hcell _).trans q1
          have p2 := (hcell _).trans q2
          have p3 := (hcell _).trans q3
          have p4 := (hcell _).trans q4
          have p5 := (hcell _).trans q5
          have p6 := (hcell _).trans q6
          have hkI : (k : Int) < (xs.length : Int) := by omega
          have hk0 : (0 : Int) ≤ (k : Int) := by omega
          have how := wt_os ⟨pol, every, faults, os, ck, bytes, cm⟩
          have hws := wtL_succ hx
          have hwl := wtL_le xs (k + 1)
          have hwt : Lf.wt ⟨pol, every, faults, os, ck, bytes, cm⟩ = 8 + faults.length + bytes.length + opW os := rfl
          obtain ⟨W, hW⟩ : ∃ W, wtL xs k = W := ⟨_, rfl⟩
          obtain ⟨W2, hW2⟩ : ∃ W2, wtL xs (k + 1) = W2 := ⟨_, rfl⟩
          simp only at how
          rw [hW] at fd hws
          rw [hW2] at hws hwl
          have HW2 := Lib.hid hW2
          have HQ := Lib.hid hqr
          have HO := Lib.hid hor
          have HI := Lib.hid hir
          have hB := fd.out.bel.size
          obtain ⟨va, vc, rfl⟩ : ∃ ao cp, yv = .slice ao all.length cp := by obtain ⟨ao, cp, e, -⟩ := fd.out.txt.tat; exact ⟨ao, cp, e⟩
          have HOwn := Lib.hid (show ∀ k, (Value.slice va all.length vc).ownBlock = some k → w.heap.size ≤ k ∧ k < wk.heap.size from World.ownsRow.lt fd.out.txt)
          obtain ⟨P, hP⟩ : ∃ P : Nat → Prop, P = fun k => (w.heap.size ≤ k ∧ ¬ StrBlk wk k) ∧ k < wk.heap.size := ⟨_, rfl⟩
          have DWk : Hid (DW P wk b a S) := Lib.hid (by rw [hP]; exact fd.out.dw.narrow.bounded)
          have HP := Lib.hid (show (∀ k, P k → w.heap.size ≤ k ∧ k < wk.heap.size) ∧ ∀ k, (Value.slice va all.length vc).ownBlock = some k → ¬ P k from by
            subst hP
            exact ⟨fun k hk => ⟨hk.1.1, hk.2⟩, fun k hk hp => hp.1.2 (fd.out.txt.str hk)⟩)
          clear hc hx q0 q1 q2 q3 q4 q5 q6 hqr hor hir hcell hW hW2 hP
          go_upto_region 16 with fail
          obtain ⟨xv, hxv⟩ : ∃ xv : Array Value, xv = #[.int .i64 pol, .int .i64 every, .slice fa faults.length fc, .slice sa os.length sc, .int .i64 ck, .slice ba bytes.length bc, .bool cm] := ⟨_, rfl⟩
          have bw5 : Below wk.heap.size wk (wk.alloc (.cells xv 58)) := (Below.refl _ _).alloc (Nat.le_refl _) _
          have hb5 := alloc_here wk (.cells xv 58)
          rw [← hxv]
          generalize wk.alloc (.cells xv 58) = w5 at *
          have HX := Lib.hid (show ∀ W : World, W.heap[wk.heap.size]? = w5.heap[wk.heap.size]? → W.cell? ⟨wk.heap.size, 0, none⟩ = some (.int .i64 pol) ∧ W.cell? ⟨wk.heap.size, 1, none⟩ = some (.int .i64 every) ∧ W.cell? ⟨wk.heap.size, 2, none⟩ = some (.slice fa faults.length fc) ∧ W.cell? ⟨wk.heap.size, 3, none⟩ = some (.slice sa os.length sc) ∧ W.cell? ⟨wk.heap.size, 4, none⟩ = some (.int .i64 ck) ∧ W.cell? ⟨wk.heap.size, 5, none⟩ = some (.slice ba bytes.length bc) ∧ W.cell? ⟨wk.heap.size, 6, none⟩ = some (.bool cm) from fun W hW => by
            have h := hW.trans hb5
            subst hxv
            refine ⟨?_, ?_, ?_, ?_, ?_, ?_, ?_⟩ <;> simp [World.cell?, h])
          have hbx5 : wk.heap.size < w5.heap.size := (Array.getElem?_eq_some_iff.1 hb5).1
          have BW5 := Lib.hid bw5
          have B5 := Lib.hid (fd.out.bel.trans (bw5.mono hB))
          have DW5 := Lib.hid (DWk.out.below bw5)
          have TX5 := Lib.hid (fd.out.txt.below bw5)
          obtain ⟨c0, c1, -⟩ := HX.out w5 rfl
          have HFit := Lib.hid (fun W => fit_any pol every W)
          clear p0 p1 p2 p3 p4 p5 p6 hkI hk0 bw5 hb5 hxv
          cases hp : polOk pol every with
          | false =>
            rw [hp] at HFit
            go_wp2_with fail
            refine (HFit.out _).mono ?_
            rintro e w6 ⟨rfl, hq⟩
            obtain rfl := hq.symm
            clear hq c0 c1
            have FDz := Lib.hid (show FindAt w w5 b a S all lo calm (.slice va all.length vc) W2 from ⟨fd.out.dw.below BW5.out, B5.out, TX5.out, fd.out.ready, fd.out.inv, fd.out.small.mono (by omega), by have := fd.out.len; omega, by have := fd.out.sum; omega⟩)
            rw [← HW2.out] at FDz
            go_wp2
            go_roundw
            case rel => exact ⟨k + 1, S, all, lo, calm, _, by omega, by go_num, rfl, rfl, rfl, FDz⟩
            case measure => simp [intOf]; omega
          | true =>
            rw [hp] at HFit
            have HPol := Lib.hid hp
            have hev0 : 0 ≤ every := by
              unfold polOk at hp
              split at hp
              · have := of_decide_eq_true hp; omega
              · split at hp
                · have := of_decide_eq_true hp; omega
                · cases hp
            clear hp
            obtain ⟨d1, last, R, bs, cut, size, hop, hlo, hla, hcm, hwb, hbl, hal, hs0, hs1⟩ := fd.out.ready.opens fd.out.inv fd.out.small (by omega)
            have iR := hop.inv (clean_inv fd.out.inv)
            have sR := hop.small (clean_small fd.out.small)
            have OP := Lib.hid (And.intro d1 hop)
            have IS := Lib.hid (And.intro iR sR)
            have HWB := Lib.hid hwb
            have HAL := Lib.hid hal
            have hlen := fd.out.len
            have hsum := fd.out.sum
            clear d1 hop hwb hal iR sR
            go_wp2_with fail
            refine (HFit.out _).mono ?_
            rintro e w6 ⟨rfl, hq⟩
            obtain rfl := hq.symm
            clear hq
            go_wp2_with fail
            refine (open_any DW5.out fd.out.inv fd.out.small (by omega) HPol.out OP.out.1 OP.out.2 rfl).mono ?_
            rintro e w6 ⟨l, bv6, base, P6, rfl, lw6, k6, r6, tx6, hb6, hl6⟩
            clear c0 c1
            go_upto_region 18 with fail
            obtain ⟨nt, hnt⟩ : ∃ nt, bs.length = nt := ⟨_, rfl⟩
            have hnt2 : nt ≤ all.length := by omega
            have bw7 : Below w6.heap.size w6 (w6.alloc (.cells #[.int .i64 nt, .int .i64 size, .int .i64 cut, .int .u64 last] 26)) := (Below.refl _ _).alloc (Nat.le_refl _) _
            have hf7 := alloc_here w6 (.cells #[.int .i64 nt, .int .i64 size, .int .i64 cut, .int .u64 last] 26)
            rw [hnt]
            generalize w6.alloc (.cells #[.int .i64 nt, .int .i64 size, .int .i64 cut, .int .u64 last] 26) = w7 at *
            have hf7l : w6.heap.size < w7.heap.size := (Array.getElem?_eq_some_iff.1 hf7).1
            have f0 : w7.cell? ⟨w6.heap.size, 0, none⟩ = some (.int .i64 nt) := by simp [World.cell?, hf7]
            have f3 : w7.cell? ⟨w6.heap.size, 3, none⟩ = some (.int .u64 last) := by simp [World.cell?, hf7]
            have HNT := Lib.hid hnt
            have LW7 := Lib.hid (lw6.below bw7)
            have HF7 := Lib.hid hf7
            have hbx7 : w7.heap[wk.heap.size]? = w5.heap[wk.heap.size]? := (bw7.block _ (Nat.lt_of_lt_of_le hbx5 r6.size)).trans (r6.block _ hbx5 (fun hp => by have := (HP.out.1 _ hp).2; omega))
            have HBX7 := Lib.hid hbx7
            have hbl7 : wk.heap.size < w7.heap.size := Nat.lt_of_lt_of_le (Nat.lt_of_lt_of_le hbx5 r6.size) bw7.size
            have TXb := Lib.hid (tx6.below bw7)
            have TXa := Lib.hid ((TX5.out.beside r6 (fun k hk => HP.out.2 k hk)).below bw7)
            have B7 := Lib.hid ((B5.out.trans (r6.below (fun k hk => (HP.out.1 k hk).1) B5.out.size)).trans (bw7.mono (Nat.le_trans B5.out.size r6.size)))
            have HK6 := Lib.hid (show (∀ k, P6 k → w.heap.size ≤ k ∧ k ≠ wk.heap.size ∧ ∀ q, (Value.slice va all.length vc).ownBlock = some q → q ≠ k) ∧ w.heap.size ≤ l ∧ l ≠ wk.heap.size ∧ ∀ q, (Value.slice va all.length vc).ownBlock = some q → q ≠ l from by
              have e5 := B5.out.size
              refine ⟨fun k hk => ?_, by omega, by omega, fun q hq => by have := (HOwn.out q hq).2; omega⟩
              rcases k6 k hk with h | h
              · exact ⟨(HP.out.1 k h).1, by have := (HP.out.1 k h).2; omega, fun q hq e => HP.out.2 q hq (e ▸ h)⟩
              · exact ⟨by omega, by omega, fun q hq => by have := (HOwn.out q hq).2; omega⟩)
            clear bw7 hf7 hnt lw6 k6 r6 tx6 hb6 hl6 hbx7
            have hwl1 : IntKind.u64.wrap (all.length : Int) = (all.length : Int) := by unfold IntKind.wrap; simp [IntKind.signed, IntKind.bits]; omega
            have t1 : decide (last < lo) = false := decide_eq_false (by omega)
            have t2 : decide (all.length < last) = false := decide_eq_false (by omega)
            go_cut [91] from 61 to 91 (fun v wx => v = .bool false ∧ wx = w7)
            case first =>
              cases calm with
              | false =>
                go_wp2_with fail
                go_meet
                exact ⟨rfl, rfl⟩
              | true =>
                have t3 := hcm rfl
                clear hcm
                subst t3
                go_wp2_with fail
                go_meet
                exact ⟨rfl, rfl⟩
            case rest =>
              obtain ⟨rfl, rfl⟩ := hcut
              rename World => w7
              clear t1 t2 hwl1 hcm
              have hcap : all.length ≤ vc := by
                rcases fd.out.txt.2 with ⟨e, h⟩ | ⟨g2, cap, cur, e, -, -, h, -⟩
                · omega
                · simp only [Value.slice.injEq] at e
                  obtain ⟨-, -, rfl⟩ := e
                  exact h
              have h1 : (0 : Int) ≤ (last : Int) := by omega
              have h2 : (last : Int) ≤ (vc : Int) := by omega
              have h2' : last ≤ vc := by omega
              obtain ⟨ta, tc, rfl⟩ : ∃ ao cp, bv6 = .slice ao nt cp := by
                obtain ⟨ao, cp, e, -⟩ := TXb.out.tat
                rw [HNT.out] at e
                exact ⟨ao, cp, e⟩
              obtain ⟨all1, hall1⟩ : ∃ all1, all.take last = all1 := ⟨_, rfl⟩
              have hl1 : all1.length = last := by rw [← hall1, List.length_take]; omega
              have hsum1 := sum_take all last
              have hsumb := sum_whole bs
              have hwle := wholeB_le all1
              have htx1 := TXa.out.cut hla
              have hwb := HWB.out
              rw [hall1] at htx1 hsum1 hwb
              have HAL1 := Lib.hid HAL.out
              rw [hall1] at HAL1
              obtain ⟨wb, hwb1⟩ : ∃ wb, wholeB all1 = wb := ⟨_, rfl⟩
              rw [hwb1] at hwb hwle
              rw [hwb] at hsumb
              have HWh1 := Lib.hid (fun W (hb : Below w7.heap.size w7 W) => whole_any (.slice ta nt tc) bs (by omega) (by rw [HNT.out]; omega) W (TXb.out.below hb).tat)
              rw [hwb] at HWh1
              have HWh2 := Lib.hid (fun W (hb : Below w7.heap.size w7 W) => whole_any (.slice va last vc) all1 (by omega) (by omega) W (htx1.below hb).tat)
              rw [hwb1] at HWh2
              have HLs := Lib.hid (fun W (hb : Below w7.heap.size w7 W) => last_is (LW7.out.below hb).log)
              have HLg := Lib.hid (fun W (hb : Below w7.heap.size w7 W) => lasting_is (LW7.out.below hb).log)
              simp only at HLs HLg
              have TX1 := Lib.hid htx1
              have HL1 := Lib.hid hl1
              clear htx1 hwb hwb1 hall1 hl1 HWB HAL hsumb
              go_upto_region 21 with fail
              go_cut [121] from 96 to 121 (fun v wx => v = .bool false ∧ Hid (Below w7.heap.size w7 wx))
              case first =>
                have hbd : Below w7.heap.size w7 w7.drew := (Below.refl _ _).drew
                have f0d : w7.drew.cell? ⟨w6.heap.size, 0, none⟩ = some (.int .i64 nt) := f0
                have f3d : w7.drew.cell? ⟨w6.heap.size, 3, none⟩ = some (.int .u64 last) := f3
                have hzd : w6.heap.size < w7.drew.heap.size := hf7l
                clear f0 f3
                generalize hwd : w7.drew = wd at *
                have hwd := Lib.hid hwd
                have FD0 := Lib.hid (And.intro f0d (And.intro f3d hzd))
                have HBD := Lib.hid hbd
                clear f0d f3d hzd hbd h1 h2 h2'
                refine wp_region_held_drew (S := (fun W => W.cell? ⟨w6.heap.size, 0, none⟩ = some (.int .i64 nt) ∧ W.cell? ⟨w6.heap.size, 3, none⟩ = some (.int .u64 last) ∧ w6.heap.size < W.heap.size)) (by kernel_rfl) ?_ (fun hHeld => ?_)
                · rw [hwd.out]; exact FD0.out
                refine wpAnyH_take (i := 0) (oi := (Go.Oper.mk (some 96) (Go.Op.move (Go.Operand.tmp 12)) 23 _ #[] none)) (v := ?_) rfl (by kernel_rfl) (by kernel_rfl) (by kernel_rfl) (fun _ _ _ h => h) (Or.inl ⟨by rfl, ?_⟩) hHeld ?_
                rotate_left
                · intro w hSw; (try dsimp only at hSw); go_simp; (try with_reducible rfl)
                simp only [Act.put, List.setIfInBounds_toArray, List.set_cons_zero, List.set_cons_succ]
                refine wpAnyH_take (i := 2) (oi := (Go.Oper.mk (some 98) (Go.Op.move (Go.Operand.tmp 6)) 23 _ #[] none)) (v := ?_) rfl (by kernel_rfl) (by kernel_rfl) (by kernel_rfl) (fun _ _ _ h => h) (Or.inl ⟨by rfl, ?_⟩) hHeld ?_
                rotate_left
                · intro w hSw; (try dsimp only at hSw); go_simp; (try with_reducible rfl)
                simp only [Act.put, List.setIfInBounds_toArray, List.set_cons_zero, List.set_cons_succ]
                refine wpAnyH_ready (rs := [1]) (by kernel_rfl) (by simp) ?_
                refine (AllReadyH.cons (o := (Go.Oper.mk (some 97) (Go.Op.call (Go.Call.mk (Go.Callee.value (Go.Operand.func 32)) #[Go.Operand.tmp 96] #[23])) 9 _ #[Go.Edge.mk 0 Go.Ground.data] none)) rfl (fun K hK => ?_) AllReadyH.nil)
                · skip
                  go_simp
                  (refine (HWh1.out _ HBD.out).mono ?_); (rintro e w8 ⟨rfl, b8⟩); (have B8 := Lib.hid (HBD.out.trans (b8.mono HBD.out.size))); (have C8 := Lib.hid b8); (clear b8)
                  go_wp2_with fail
                  refine hK.out _ _ ?_ (fun hHeld => ?_)
                  · exact ⟨(World.cell?_of_block (C8.out.block _ FD0.out.2.2)).trans FD0.out.1, (World.cell?_of_block (C8.out.block _ FD0.out.2.2)).trans FD0.out.2.1, Nat.lt_of_lt_of_le FD0.out.2.2 C8.out.size⟩
                  clear hK K
                  (try simp only [Act.put, List.setIfInBounds_toArray, List.set_cons_zero, List.set_cons_succ])
                  refine wpAnyH_ready (rs := [3]) (by kernel_rfl) (by simp) ?_
                  refine (AllReadyH.cons (o := (Go.Oper.mk (some 99) (Go.Op.call (Go.Call.mk (Go.Callee.value (Go.Operand.func 32)) #[Go.Operand.tmp 98] #[23])) 9 _ #[Go.Edge.mk 2 Go.Ground.data, Go.Edge.mk 1 Go.Ground.chain] none)) rfl (fun K hK => ?_) AllReadyH.nil)
                  · skip
                    go_simp
                    (refine (HWh2.out _ B8.out).mono ?_); (rintro e w9 ⟨rfl, b9⟩); (have B9 := Lib.hid (B8.out.trans (b9.mono B8.out.size))); (have C9 := Lib.hid b9); (clear b9)
                    go_wp2_with fail
                    refine hK.out _ _ ?_ (fun hHeld => ?_)
                    · exact ⟨(World.cell?_of_block (C9.out.block _ hHeld.2.2)).trans hHeld.1, (World.cell?_of_block (C9.out.block _ hHeld.2.2)).trans hHeld.2.1, Nat.lt_of_lt_of_le hHeld.2.2 C9.out.size⟩
                    clear hK K
                    (try simp only [Act.put, List.setIfInBounds_toArray, List.set_cons_zero, List.set_cons_succ])
                    refine wpAnyH_take (i := 4) (oi := (Go.Oper.mk (some 100) (Go.Op.binOp Go.BinOp.neq 9 (Go.Operand.tmp 97) (Go.Operand.tmp 99) 9) 4 _ #[Go.Edge.mk 1 Go.Ground.data, Go.Edge.mk 3 Go.Ground.data] none)) (v := ?_) rfl (by kernel_rfl) (by kernel_rfl) (by kernel_rfl) (fun _ _ _ h => h) (Or.inl ⟨by rfl, ?_⟩) hHeld ?_
                    rotate_left
                    · intro w hSw; (try dsimp only at hSw); go_simp; (try with_reducible rfl)
                    simp only [Act.put, List.setIfInBounds_toArray, List.set_cons_zero, List.set_cons_succ]
                    refine wpAnyH_take (i := 5) (oi := (Go.Oper.mk (some 101) (Go.Op.move (Go.Operand.tmp 100)) 4 _ #[Go.Edge.mk 4 Go.Ground.data, Go.Edge.mk 3 Go.Ground.chain] none)) (v := ?_) rfl (by kernel_rfl) (by kernel_rfl) (by kernel_rfl) (fun _ _ _ h => h) (Or.inl ⟨by rfl, ?_⟩) hHeld ?_
                    rotate_left
                    · intro w hSw; (try dsimp only at hSw); go_simp; (try with_reducible rfl)
                    simp only [Act.put, List.setIfInBounds_toArray, List.set_cons_zero, List.set_cons_succ]
                    refine wpAnyH_take (i := 6) (oi := (Go.Oper.mk (some 102) (Go.Op.move (Go.Operand.tmp 11)) 22 _ #[Go.Edge.mk 5 Go.Ground.guard] (some (5, false)))) (v := ?_) rfl (by kernel_rfl) (by kernel_rfl) (by kernel_rfl) (fun _ _ _ h => h) (Or.inl ⟨by rfl, ?_⟩) hHeld ?_
                    rotate_left
                    · intro w hSw; (try dsimp only at hSw); go_simp; (try with_reducible rfl)
                    simp only [Act.put, List.setIfInBounds_toArray, List.set_cons_zero, List.set_cons_succ]
                    refine wpAnyH_take (i := 8) (oi := (Go.Oper.mk (some 104) (Go.Op.fieldAddr 26 (Go.Operand.tmp 13) 3) 0 _ #[Go.Edge.mk 5 Go.Ground.guard] (some (5, false)))) (v := ?_) rfl (by kernel_rfl) (by kernel_rfl) (by kernel_rfl) (fun _ _ _ h => h) (Or.inl ⟨by rfl, ?_⟩) hHeld ?_
                    rotate_left
                    · intro w hSw; (try dsimp only at hSw); go_simp; (try with_reducible rfl)
                    simp only [Act.put, List.setIfInBounds_toArray, List.set_cons_zero, List.set_cons_succ]
                    refine wpAnyH_take (i := 9) (oi := (Go.Oper.mk (some 105) (Go.Op.load 24 (Go.Operand.tmp 104)) 24 _ #[Go.Edge.mk 8 Go.Ground.data, Go.Edge.mk 5 Go.Ground.guard] (some (5, false)))) (v := ?_) rfl (by kernel_rfl) (by kernel_rfl) (by kernel_rfl) (fun _ _ _ h => h) (Or.inl ⟨by rfl, ?_⟩) hHeld ?_
                    rotate_left
                    · intro w hSw; (try dsimp only at hSw); go_simp; (try with_reducible rfl)
                    simp only [Act.put, List.setIfInBounds_toArray, List.set_cons_zero, List.set_cons_succ]
                    refine wpAnyH_ready (rs := [7]) (by kernel_rfl) (by simp) ?_
                    refine (AllReadyH.cons (o := (Go.Oper.mk (some 103) (Go.Op.call (Go.Call.mk (Go.Callee.value (Go.Operand.func 13)) #[Go.Operand.tmp 102] #[22])) 24 _ #[Go.Edge.mk 6 Go.Ground.data, Go.Edge.mk 5 Go.Ground.chain, Go.Edge.mk 5 Go.Ground.guard] (some (5, false)))) rfl (fun K hK => ?_) AllReadyH.nil)
                    · skip
                      go_simp
                      (refine (HLs.out _ B9.out).mono ?_); (rintro e wq ⟨rfl, hq⟩); (obtain rfl := hq.symm)
                      go_wp2_with fail
                      refine hK.out _ _ ?_ (fun hHeld => ?_)
                      · exact hHeld
                      clear hK K
                      (try simp only [Act.put, List.setIfInBounds_toArray, List.set_cons_zero, List.set_cons_succ])
                      refine wpAnyH_take (i := 10) (oi := (Go.Oper.mk (some 106) (Go.Op.binOp Go.BinOp.neq 24 (Go.Operand.tmp 103) (Go.Operand.tmp 105) 24) 4 _ #[Go.Edge.mk 7 Go.Ground.data, Go.Edge.mk 9 Go.Ground.data, Go.Edge.mk 5 Go.Ground.guard] (some (5, false)))) (v := ?_) rfl (by kernel_rfl) (by kernel_rfl) (by kernel_rfl) (fun _ _ _ h => h) (Or.inl ⟨by rfl, ?_⟩) hHeld ?_
                      rotate_left
                      · intro w hSw; (try dsimp only at hSw); go_simp; (try with_reducible rfl)
                      simp only [Act.put, List.setIfInBounds_toArray, List.set_cons_zero, List.set_cons_succ]
                      refine wpAnyH_take (i := 11) (oi := (Go.Oper.mk (some 107) (Go.Op.pick (Go.Operand.tmp 101) (Go.Operand.const (Go.Value.bool true)) (Go.Operand.tmp 106)) 4 _ #[Go.Edge.mk 5 Go.Ground.data, Go.Edge.mk 10 Go.Ground.data] none)) (v := ?_) rfl (by kernel_rfl) (by kernel_rfl) (by kernel_rfl) (fun _ _ _ h => h) (Or.inl ⟨by rfl, ?_⟩) hHeld ?_
                      rotate_left
                      · intro w hSw; (try dsimp only at hSw); go_simp; (try with_reducible rfl)
                      simp only [Act.put, List.setIfInBounds_toArray, List.set_cons_zero, List.set_cons_succ]
                      refine wpAnyH_take (i := 12) (oi := (Go.Oper.mk (some 108) (Go.Op.move (Go.Operand.tmp 107)) 4 _ #[Go.Edge.mk 11 Go.Ground.data, Go.Edge.mk 7 Go.Ground.chain] none)) (v := ?_) rfl (by kernel_rfl) (by kernel_rfl) (by kernel_rfl) (fun _ _ _ h => h) (Or.inl ⟨by rfl, ?_⟩) hHeld ?_
                      rotate_left
                      · intro w hSw; (try dsimp only at hSw); go_simp; (try with_reducible rfl)
                      simp only [Act.put, List.setIfInBounds_toArray, List.set_cons_zero, List.set_cons_succ]
                      refine wpAnyH_take (i := 13) (oi := (Go.Oper.mk (some 109) (Go.Op.move (Go.Operand.tmp 11)) 22 _ #[Go.Edge.mk 12 Go.Ground.guard] (some (12, false)))) (v := ?_) rfl (by kernel_rfl) (by kernel_rfl) (by kernel_rfl) (fun _ _ _ h => h) (Or.inl ⟨by rfl, ?_⟩) hHeld ?_
                      rotate_left
                      · intro w hSw; (try dsimp only at hSw); go_simp; (try with_reducible rfl)
                      simp only [Act.put, List.setIfInBounds_toArray, List.set_cons_zero, List.set_cons_succ]
                      refine wpAnyH_take (i := 15) (oi := (Go.Oper.mk (some 111) (Go.Op.fieldAddr 26 (Go.Operand.tmp 13) 3) 0 _ #[Go.Edge.mk 12 Go.Ground.guard] (some (12, false)))) (v := ?_) rfl (by kernel_rfl) (by kernel_rfl) (by kernel_rfl) (fun _ _ _ h => h) (Or.inl ⟨by rfl, ?_⟩) hHeld ?_
                      rotate_left
                      · intro w hSw; (try dsimp only at hSw); go_simp; (try with_reducible rfl)
                      simp only [Act.put, List.setIfInBounds_toArray, List.set_cons_zero, List.set_cons_succ]
                      refine wpAnyH_take (i := 16) (oi := (Go.Oper.mk (some 112) (Go.Op.load 24 (Go.Operand.tmp 111)) 24 _ #[Go.Edge.mk 15 Go.Ground.data, Go.Edge.mk 12 Go.Ground.guard] (some (12, false)))) (v := ?_) rfl (by kernel_rfl) (by kernel_rfl) (by kernel_rfl) (fun _ _ _ h => h) (Or.inl ⟨by rfl, ?_⟩) hHeld ?_
                      rotate_left
                      · intro w hSw; (try dsimp only at hSw); go_simp; (try with_reducible rfl)
                      simp only [Act.put, List.setIfInBounds_toArray, List.set_cons_zero, List.set_cons_succ]
                      refine wpAnyH_ready (rs := [14]) (by kernel_rfl) (by simp) ?_
                      refine (AllReadyH.cons (o := (Go.Oper.mk (some 110) (Go.Op.call (Go.Call.mk (Go.Callee.value (Go.Operand.func 14)) #[Go.Operand.tmp 109] #[22])) 24 _ #[Go.Edge.mk 13 Go.Ground.data, Go.Edge.mk 12 Go.Ground.chain, Go.Edge.mk 12 Go.Ground.guard] (some (12, false)))) rfl (fun K hK => ?_) AllReadyH.nil)
                      · skip
                        go_simp
                        (refine (HLg.out _ B9.out).mono ?_); (rintro e wq ⟨rfl, hq⟩); (obtain rfl := hq.symm)
                        go_wp2_with fail
                        refine hK.out _ _ ?_ (fun hHeld => ?_)
                        · exact hHeld
                        clear hK K
                        (try simp only [Act.put, List.setIfInBounds_toArray, List.set_cons_zero, List.set_cons_succ])
                        refine wpAnyH_take (i := 17) (oi := (Go.Oper.mk (some 113) (Go.Op.binOp Go.BinOp.neq 24 (Go.Operand.tmp 110) (Go.Operand.tmp 112) 24) 4 _ #[Go.Edge.mk 14 Go.Ground.data, Go.Edge.mk 16 Go.Ground.data, Go.Edge.mk 12 Go.Ground.guard] (some (12, false)))) (v := ?_) rfl (by kernel_rfl) (by kernel_rfl) (by kernel_rfl) (fun _ _ _ h => h) (Or.inl ⟨by rfl, ?_⟩) hHeld ?_
                        rotate_left
                        · intro w hSw; (try dsimp only at hSw); go_simp; (try with_reducible rfl)
                        simp only [Act.put, List.setIfInBounds_toArray, List.set_cons_zero, List.set_cons_succ]
                        refine wpAnyH_take (i := 18) (oi := (Go.Oper.mk (some 114) (Go.Op.pick (Go.Operand.tmp 108) (Go.Operand.const (Go.Value.bool true)) (Go.Operand.tmp 113)) 4 _ #[Go.Edge.mk 12 Go.Ground.data, Go.Edge.mk 17 Go.Ground.data] none)) (v := ?_) rfl (by kernel_rfl) (by kernel_rfl) (by kernel_rfl) (fun _ _ _ h => h) (Or.inl ⟨by rfl, ?_⟩) hHeld ?_
                        rotate_left
                        · intro w hSw; (try dsimp only at hSw); go_simp; (try with_reducible rfl)
                        simp only [Act.put, List.setIfInBounds_toArray, List.set_cons_zero, List.set_cons_succ]
                        refine wpAnyH_take (i := 19) (oi := (Go.Oper.mk (some 115) (Go.Op.move (Go.Operand.tmp 114)) 4 _ #[Go.Edge.mk 18 Go.Ground.data, Go.Edge.mk 14 Go.Ground.chain] none)) (v := ?_) rfl (by kernel_rfl) (by kernel_rfl) (by kernel_rfl) (fun _ _ _ h => h) (Or.inl ⟨by rfl, ?_⟩) hHeld ?_
                        rotate_left
                        · intro w hSw; (try dsimp only at hSw); go_simp; (try with_reducible rfl)
                        simp only [Act.put, List.setIfInBounds_toArray, List.set_cons_zero, List.set_cons_succ]
                        refine wpAnyH_take (i := 20) (oi := (Go.Oper.mk (some 116) (Go.Op.move (Go.Operand.tmp 12)) 23 _ #[Go.Edge.mk 19 Go.Ground.guard] (some (19, false)))) (v := ?_) rfl (by kernel_rfl) (by kernel_rfl) (by kernel_rfl) (fun _ _ _ h => h) (Or.inl ⟨by rfl, ?_⟩) hHeld ?_
                        rotate_left
                        · intro w hSw; (try dsimp only at hSw); go_simp; (try with_reducible rfl)
                        simp only [Act.put, List.setIfInBounds_toArray, List.set_cons_zero, List.set_cons_succ]
                        refine wpAnyH_take (i := 21) (oi := (Go.Oper.mk (some 117) (Go.Op.call (Go.Call.mk (Go.Callee.builtin Go.Builtin.len) #[Go.Operand.tmp 116] #[23])) 3 _ #[Go.Edge.mk 20 Go.Ground.data, Go.Edge.mk 19 Go.Ground.guard] (some (19, false)))) (v := ?_) rfl (by kernel_rfl) (by kernel_rfl) (by kernel_rfl) (fun _ _ _ h => h) (Or.inl ⟨by rfl, ?_⟩) hHeld ?_
                        rotate_left
                        · intro w hSw; (try dsimp only at hSw); go_simp; (try with_reducible rfl)
                        simp only [Act.put, List.setIfInBounds_toArray, List.set_cons_zero, List.set_cons_succ]
                        refine wpAnyH_take (i := 22) (oi := (Go.Oper.mk (some 118) (Go.Op.fieldAddr 26 (Go.Operand.tmp 13) 0) 0 _ #[Go.Edge.mk 19 Go.Ground.guard] (some (19, false)))) (v := ?_) rfl (by kernel_rfl) (by kernel_rfl) (by kernel_rfl) (fun _ _ _ h => h) (Or.inl ⟨by rfl, ?_⟩) hHeld ?_
                        rotate_left
                        · intro w hSw; (try dsimp only at hSw); go_simp; (try with_reducible rfl)
                        simp only [Act.put, List.setIfInBounds_toArray, List.set_cons_zero, List.set_cons_succ]
                        refine wpAnyH_take (i := 23) (oi := (Go.Oper.mk (some 119) (Go.Op.load 3 (Go.Operand.tmp 118)) 3 _ #[Go.Edge.mk 22 Go.Ground.data, Go.Edge.mk 19 Go.Ground.guard] (some (19, false)))) (v := ?_) rfl (by kernel_rfl) (by kernel_rfl) (by kernel_rfl) (fun _ _ _ h => h) (Or.inl ⟨by rfl, ?_⟩) hHeld ?_
                        rotate_left
                        · intro w hSw; (try dsimp only at hSw); go_simp; (try with_reducible rfl)
                        simp only [Act.put, List.setIfInBounds_toArray, List.set_cons_zero, List.set_cons_succ]
                        refine wpAnyH_take (i := 24) (oi := (Go.Oper.mk (some 120) (Go.Op.binOp Go.BinOp.neq 3 (Go.Operand.tmp 117) (Go.Operand.tmp 119) 3) 4 _ #[Go.Edge.mk 21 Go.Ground.data, Go.Edge.mk 23 Go.Ground.data, Go.Edge.mk 19 Go.Ground.guard] (some (19, false)))) (v := ?_) rfl (by kernel_rfl) (by kernel_rfl) (by kernel_rfl) (fun _ _ _ h => h) (Or.inl ⟨by rfl, ?_⟩) hHeld ?_
                        rotate_left
                        · intro w hSw; (try dsimp only at hSw); go_simp; (try with_reducible rfl)
                        simp only [Act.put, List.setIfInBounds_toArray, List.set_cons_zero, List.set_cons_succ]
                        refine wpAnyH_take (i := 25) (oi := (Go.Oper.mk (some 121) (Go.Op.pick (Go.Operand.tmp 115) (Go.Operand.const (Go.Value.bool true)) (Go.Operand.tmp 120)) 4 _ #[Go.Edge.mk 19 Go.Ground.data, Go.Edge.mk 24 Go.Ground.data] none)) (v := ?_) rfl (by kernel_rfl) (by kernel_rfl) (by kernel_rfl) (fun _ _ _ h => h) (Or.inl ⟨by rfl, ?_⟩) hHeld ?_
                        rotate_left
                        · intro w hSw; (try dsimp only at hSw); go_simp; (try with_reducible rfl)
                        simp only [Act.put, List.setIfInBounds_toArray, List.set_cons_zero, List.set_cons_succ]
                        refine wpAnyH_done (by kernel_rfl) ?_ _
                        go_wp2_with fail
                        go_meet
                        exact ⟨rfl, Lib.hid B9.out⟩
              case rest =>
                obtain ⟨rfl, hcut⟩ := hcut
                rename World => w9
                have B9 := Lib.hid (B7.out.trans (hcut.out.mono B7.out.size))
                have LW9 := Lib.hid (LW7.out.below hcut.out)
                have TX9 := Lib.hid (TX1.out.below hcut.out)
                have hbx9 : w9.heap[wk.heap.size]? = w5.heap[wk.heap.size]? := (hcut.out.block _ hbl7).trans HBX7.out
                have hbl9 : wk.heap.size < w9.heap.size := Nat.lt_of_lt_of_le hbl7 hcut.out.size
                have iR := IS.out.1
                have sR := IS.out.2
                clear hcut f0 f3 h1 h2 h2' HWh1 HWh2 HLs HLg
                go_upto_region 23 with fail
                go_cut [5] from 122 to 128 (fun v wx => v = .pointer (some ⟨b, 0, none⟩) ∧ Hid (∃ q w10, Below w9.heap.size w9 w10 ∧ LgEnd P6 w10 l b a (R.planS q) ⟨pol, every, last, last, size, false, false⟩ wx))
                case first =>
                  have LWd := Lib.hid (LW9.out.below (Below.refl _ _).drew)
                  have hbd : Below w9.heap.size w9 w9.drew := (Below.refl _ _).drew
                  have hqd := HQ.out.below (B9.out.trans (hbd.mono B9.out.size))
                  have hxd : w9.drew.cell? ⟨wk.heap.size, 2, none⟩ = some (.slice fa faults.length fc) := (HX.out w9 hbx9).2.2.1
                  have hzd : wk.heap.size < w9.drew.heap.size := hbl9
                  generalize hwd : w9.drew = wd at *
                  have hwd := Lib.hid hwd
                  have HXD := Lib.hid hxd
                  have HBD := Lib.hid hbd
                  have HSt := Lib.hid LWd.out.stepsC
                  have HLa := Lib.hid (later_any (.slice fa faults.length fc) faults R.steps (by omega) wd hqd)
                  have HKB := Lib.hid (show ∀ k, k = wk.heap.size → ¬ (P6 k ∨ k = l) from fun k hk hx => hx.elim (fun h => (HK6.out.1 k h).2.1 hk) (fun h => HK6.out.2.2.1 (h ▸ hk)))
                  clear hxd hbd hqd
                  refine wp_region_held_drew (S := (fun W => W.cell? ⟨wk.heap.size, 2, none⟩ = some (.slice fa faults.length fc) ∧ wk.heap.size < W.heap.size)) (by kernel_rfl) ?_ (fun hHeld => ?_)
                  · rw [hwd.out]; exact ⟨HXD.out, hzd⟩
                  refine wpAnyH_take (i := 0) (oi := (Go.Oper.mk (some 122) (Go.Op.move (Go.Operand.tmp 5)) 45 _ #[] none)) (v := ?_) rfl (by kernel_rfl) (by kernel_rfl) (by kernel_rfl) (fun _ _ _ h => h) (Or.inl ⟨by rfl, ?_⟩) hHeld ?_
                  rotate_left
                  · intro w hSw; (try dsimp only at hSw); go_simp; (try with_reducible rfl)
                  simp only [Act.put, List.setIfInBounds_toArray, List.set_cons_zero, List.set_cons_succ]
                  refine wpAnyH_take (i := 1) (oi := (Go.Oper.mk (some 123) (Go.Op.fieldAddr 58 (Go.Operand.tmp 10) 2) 0 _ #[] none)) (v := ?_) rfl (by kernel_rfl) (by kernel_rfl) (by kernel_rfl) (fun _ _ _ h => h) (Or.inl ⟨by rfl, ?_⟩) hHeld ?_
                  rotate_left
                  · intro w hSw; (try dsimp only at hSw); go_simp; (try with_reducible rfl)
                  simp only [Act.put, List.setIfInBounds_toArray, List.set_cons_zero, List.set_cons_succ]
                  refine wpAnyH_take (i := 2) (oi := (Go.Oper.mk (some 124) (Go.Op.load 53 (Go.Operand.tmp 123)) 53 _ #[Go.Edge.mk 1 Go.Ground.data] none)) (v := ?_) rfl (by kernel_rfl) (by kernel_rfl) (by kernel_rfl) (fun _ _ _ h => h) (Or.inl ⟨by rfl, ?_⟩) hHeld ?_
                  rotate_left
                  · intro w hSw; (try dsimp only at hSw); go_simp; (try with_reducible rfl)
                  simp only [Act.put, List.setIfInBounds_toArray, List.set_cons_zero, List.set_cons_succ]
                  refine wpAnyH_take (i := 3) (oi := (Go.Oper.mk (some 125) (Go.Op.move (Go.Operand.tmp 5)) 45 _ #[] none)) (v := ?_) rfl (by kernel_rfl) (by kernel_rfl) (by kernel_rfl) (fun _ _ _ h => h) (Or.inl ⟨by rfl, ?_⟩) hHeld ?_
                  rotate_left
                  · intro w hSw; (try dsimp only at hSw); go_simp; (try with_reducible rfl)
                  simp only [Act.put, List.setIfInBounds_toArray, List.set_cons_zero, List.set_cons_succ]
                  refine wpAnyH_ready (rs := [4]) (by kernel_rfl) (by simp) ?_
                  refine (AllReadyH.cons (o := (Go.Oper.mk (some 126) (Go.Op.call (Go.Call.mk (Go.Callee.value (Go.Operand.func 29)) #[Go.Operand.tmp 125] #[45])) 3 _ #[Go.Edge.mk 3 Go.Ground.data] none)) rfl (fun K hK => ?_) AllReadyH.nil)
                  · skip
                    go_simp
                    (refine HSt.out.mono ?_); (rintro e wq ⟨rfl, hq⟩); (obtain rfl := hq)
                    go_wp2_with fail
                    refine hK.out _ _ ?_ (fun hHeld => ?_)
                    · exact ⟨HXD.out, hzd⟩
                    clear hK K
                    (try simp only [Act.put, List.setIfInBounds_toArray, List.set_cons_zero, List.set_cons_succ])
                    refine wpAnyH_ready (rs := [5]) (by kernel_rfl) (by simp) ?_
                    refine (AllReadyH.cons (o := (Go.Oper.mk (some 127) (Go.Op.call (Go.Call.mk (Go.Callee.value (Go.Operand.func 28)) #[Go.Operand.tmp 124, Go.Operand.tmp 126] #[53, 3])) 53 _ #[Go.Edge.mk 2 Go.Ground.data, Go.Edge.mk 4 Go.Ground.data, Go.Edge.mk 4 Go.Ground.chain] none)) rfl (fun K hK => ?_) AllReadyH.nil)
                    · skip
                      go_simp
                      (refine HLa.out.mono ?_); (rintro e w10 ⟨pv, ql, rfl, hql, hfr, b10⟩); (have HB10 := Lib.hid b10); (have HPl := Lib.hid ((LWd.out.below b10).planC sR (by omega) pv ql hfr.prow (by omega))); (clear hfr b10)
                      go_wp2_with fail
                      refine hK.out _ _ ?_ (fun hHeld => ?_)
                      · exact ⟨(World.cell?_of_block (HB10.out.block _ hHeld.2)).trans hHeld.1, Nat.lt_of_lt_of_le hHeld.2 HB10.out.size⟩
                      clear hK K
                      (try simp only [Act.put, List.setIfInBounds_toArray, List.set_cons_zero, List.set_cons_succ])
                      refine wpAnyH_ready (rs := [6]) (by kernel_rfl) (by simp) ?_
                      refine (AllReadyH.cons (o := (Go.Oper.mk (some 128) (Go.Op.call (Go.Call.mk (Go.Callee.value (Go.Operand.func 27)) #[Go.Operand.tmp 122, Go.Operand.tmp 127] #[45, 53])) 27 _ #[Go.Edge.mk 0 Go.Ground.data, Go.Edge.mk 5 Go.Ground.data, Go.Edge.mk 5 Go.Ground.chain] none)) rfl (fun K hK => ?_) AllReadyH.nil)
                      · skip
                        go_simp
                        (refine HPl.out.mono ?_); (rintro e w11 ⟨rfl, le11⟩); (have HLE := Lib.hid le11); (clear le11)
                        go_wp2_with fail
                        refine hK.out _ _ ?_ (fun hHeld => ?_)
                        · exact ⟨(World.cell?_of_block (HLE.out.far.block _ hHeld.2 (HKB.out _ rfl))).trans hHeld.1, Nat.lt_of_lt_of_le hHeld.2 HLE.out.far.size⟩
                        clear hK K
                        (try simp only [Act.put, List.setIfInBounds_toArray, List.set_cons_zero, List.set_cons_succ])
                        refine wpAnyH_done (by kernel_rfl) ?_ _
                        go_wp2_with fail
                        go_meet
                        refine ⟨rfl, Lib.hid ⟨_, w10, HBD.out.trans (HB10.out.mono HBD.out.size), HLE.out⟩⟩
                case rest =>
                  obtain ⟨rfl, hcut⟩ := hcut
                  rename World => w11
                  obtain ⟨q, w10, b910, P11, lw11, k11, r11⟩ := hcut.out
                  have hs10 := b910.size
                  have B10 := Lib.hid (B9.out.trans (b910.mono B9.out.size))
                  have hown1 : ∀ q, (Value.slice va last vc).ownBlock = some q → (Value.slice va all.length vc).ownBlock = some q := fun q hq => by cases va <;> exact hq
                  have HK11 := Lib.hid (show (∀ k, P11 k → w.heap.size ≤ k ∧ k ≠ wk.heap.size ∧ ∀ q, (Value.slice va last vc).ownBlock = some q → q ≠ k) from fun k hk => by
                    rcases k11 k hk with h | h
                    · obtain ⟨e1, e2, e3⟩ := HK6.out.1 k h
                      exact ⟨e1, e2, fun q hq => e3 q (hown1 q hq)⟩
                    · exact ⟨by have := B10.out.size; omega, by omega, fun q hq => by have := (HOwn.out q (hown1 q hq)).2; omega⟩)
                  have B11 := Lib.hid (B10.out.trans (r11.below (fun k hk => hk.elim (fun h => (HK6.out.1 k h).1) (fun h => h ▸ HK6.out.2.1)) B10.out.size))
                  have TX11 := Lib.hid ((TX9.out.below b910).beside r11 (fun q hq hx => hx.elim (fun h => (HK6.out.1 q h).2.2 q (hown1 q hq) rfl) (fun h => HK6.out.2.2.2 q (hown1 q hq) h)))
                  have hbx11 : w11.heap[wk.heap.size]? = w5.heap[wk.heap.size]? := ((r11.block _ (Nat.lt_of_lt_of_le hbl9 hs10) (fun hx => hx.elim (fun h => (HK6.out.1 _ h).2.1 rfl) (fun h => HK6.out.2.2.1 h.symm))).trans (b910.block _ hbl9)).trans hbx9
                  have hbl11 : wk.heap.size < w11.heap.size := Nat.lt_of_lt_of_le hbl9 (Nat.le_trans hs10 r11.size)
                  obtain ⟨g2, F2, f2, bs2, m2, al⟩ := HAL1.out pol every
                  have al11 := al.plan q
                  have i11 := iR.set q
                  have s11 := sR.set q
                  obtain ⟨R1, hR1⟩ : ∃ R1, R.planS q = R1 := ⟨_, rfl⟩
                  rw [hR1] at lw11 al11 i11 s11
                  have in11 : InL ⟨pol, every, last, last, size, false, false⟩ R1 ⟨pol, every, last, last, size, false, false⟩ all1 281474976710656 := ⟨al11.inLife i11 rfl, rfl, rfl, hs0, hs1, fun _ _ => rfl, Nat.le_refl _⟩
                  have tx11 := TX11.out
                  have hl1 := HL1.out
                  have st11 : LifeSt (fun _ => False) w.heap.size P11 w11 l b a (.slice va last vc) w11 R1 ⟨pol, every, last, last, size, false, false⟩ all1 (.slice va last vc) := LifeSt.start lw11 tx11 (fun q hq => ⟨fun hp => (HK11.out q hp).2.2 q hq rfl, HK6.out.2.2.2 q (hown1 q hq)⟩) B11.out.size h3
                  have HLife := Lib.hid (life_any (w0 := w) (.slice va last vc) (.slice sa os.length sc) os B11.out st11 (fun k hk => (HK11.out k hk).1) HK6.out.2.1 HO.out in11 s11 (by omega) (by omega) (by omega) (by decide) (by omega) ⟨hev0, hev⟩)
                  obtain ⟨-, -, -, c3, -⟩ := HX.out w11 hbx11
                  clear hcut b910 lw11 k11 r11 al al11 i11 s11 hR1 in11 tx11 st11 iR sR
                  go_wp2_with fail
                  refine HLife.out.mono ?_
                  rintro e w12 ⟨S12, L12, all2, v2, rfl, st12, in12, bd12⟩
                  have B12 := Lib.hid (st12.reach B11.out (fun k hk => (HK11.out k hk).1) HK6.out.2.1 (fun q hq => (HOwn.out q (hown1 q hq)).1))
                  obtain ⟨P12, h12⟩ := st12
                  have LW12 := Lib.hid h12.lw
                  have hs12 := h12.far.size
                  have K12 := Lib.hid (show ∀ k, P12 k → w.heap.size ≤ k from fun k hk => (h12.ps k hk).elim (fun h => (HK11.out k h).1) (fun h => by have := B11.out.size; omega))
                  have TX12 := Lib.hid h12.txt
                  have HO12 := Lib.hid h12.own
                  have hbx12 : w12.heap[wk.heap.size]? = w5.heap[wk.heap.size]? := (h12.far.block _ hbl11 (fun hx => hx.elim (fun h => (HK11.out _ h).2.1 rfl) fun hx => hx.elim (fun h => HK6.out.2.2.1 h.symm) (fun h => by have := (HOwn.out _ (hown1 _ h)).2; omega))).trans hbx11
                  obtain ⟨c0, -, -, -, c4, c5, c6⟩ := HX.out w12 hbx12
                  have HIN := Lib.hid in12
                  have HBD := Lib.hid bd12
                  have HBr := Lib.hid (broken_is h12.lw.log)
                  have HLs := Lib.hid (last_is h12.lw.log)
                  have HLg := Lib.hid (lasting_is h12.lw.log)
                  have HDn := Lib.hid h12.lw.downC
                  have HSu := Lib.hid in12.sure
                  have hpol := in12.pol
                  simp only at hpol
                  rw [hpol] at HSu
                  clear h12 in12 bd12 c3 hpol hown1 hbx11 hbx12 hbx9
                  go_upto_region 26 with fail
                  go_cut [155] from 137 to 155 (fun v wx => v = .bool false ∧ wx = w12)
                  case first =>
                    by_cases hp1 : pol = 1
                    · subst hp1
                      cases hbr : L12.broken with
                      | true =>
                        rw [hbr] at HBr
                        go_wp2_with fail
                        refine HBr.out.mono ?_
                        rintro e wq ⟨rfl, hq⟩
                        obtain rfl := hq.symm
                        clear hq
                        go_wp2_with fail
                        go_meet
                        exact ⟨rfl, rfl⟩
                      | false =>
                        rw [hbr] at HBr
                        have hll := HSu.out rfl hbr
                        rw [hll] at HLg
                        generalize L12.last = nl at *
                        clear hll HSu hbr
                        go_wp2_with fail
                        refine HBr.out.mono ?_
                        rintro e wq ⟨rfl, hq⟩
                        obtain rfl := hq.symm
                        clear hq
                        go_wp2_with fail
                        refine HLg.out.mono ?_
                        rintro e wq ⟨rfl, hq⟩
                        obtain rfl := hq.symm
                        clear hq
                        go_wp2_with fail
                        refine HLs.out.mono ?_
                        rintro e wq ⟨rfl, hq⟩
                        obtain rfl := hq.symm
                        clear hq
                        go_wp2_with fail
                        go_meet
                        exact ⟨rfl, rfl⟩
                    · have hp1' : (pol == 1) = false := by simpa using hp1
                      clear hp1
                      go_wp2_with fail
                      go_meet
                      exact ⟨rfl, rfl⟩
                  case rest =>
                    obtain ⟨rfl, rfl⟩ := hcut
                    rename World => w12
                    obtain ⟨br, hbr⟩ : ∃ br, L12.broken = br := ⟨_, rfl⟩
                    obtain ⟨dn, hdn⟩ : ∃ dn, S12.down = dn := ⟨_, rfl⟩
                    obtain ⟨lo2, hlo2⟩ : ∃ lo2, L12.lasting = lo2 := ⟨_, rfl⟩
                    rw [hbr] at HBr
                    rw [hdn] at HDn
                    rw [hlo2] at HLg
                    have HLo2 := Lib.hid hlo2
                    have HDn2 := Lib.hid hdn
                    have HBr2 := Lib.hid hbr
                    clear hbr hdn hlo2 HLs HSu
                    go_wp2_with fail
                    refine HLg.out.mono ?_
                    rintro e wq ⟨rfl, hq⟩
                    obtain rfl := hq.symm
                    clear hq
                    go_upto_region 29 with fail
                    go_cut [8] from 158 to 169 (fun v wx => v = .bool (cm && !br && !dn) ∧ wx = w12)
                    case first =>
                      cases cm with
                      | false =>
                        go_wp2_with fail
                        go_meet
                        exact ⟨rfl, rfl⟩
                      | true =>
                        cases br with
                        | true =>
                          go_wp2_with fail
                          refine HBr.out.mono ?_
                          rintro e wq ⟨rfl, hq⟩
                          obtain rfl := hq.symm
                          clear hq
                          go_wp2_with fail
                          go_meet
                          exact ⟨rfl, rfl⟩
                        | false =>
                          go_wp2_with fail
                          refine HBr.out.mono ?_
                          rintro e wq ⟨rfl, hq⟩
                          obtain rfl := hq.symm
                          clear hq
                          go_wp2_with fail
                          refine HDn.out.mono ?_
                          rintro e wq ⟨rfl, hq⟩
                          obtain rfl := hq
                          cases dn with
                          | true =>
                            go_wp2_with fail
                            go_meet
                            exact ⟨rfl, rfl⟩
                          | false =>
                            go_wp2_with fail
                            go_meet
                            exact ⟨rfl, rfl⟩
                    case rest =>
                      obtain ⟨rfl, rfl⟩ := hcut
                      rename World => w12
                      obtain ⟨cv, hcv⟩ : ∃ cv, (cm && !br && !dn) = cv := ⟨_, rfl⟩
                      rw [hcv]
                      have HEnd := Lib.hid (show ∀ (S13 : Dk) (w13 : World), Ready S13 all2 lo2 cv → S13.Inv → S13.Small (W + 2 + 4 + 6 * os.length) → LgEnd P12 w12 l b a S13 L12 w13 → FindAt w w13 b a S13 all2 lo2 cv v2 W2 from by
                        rintro S13 w13 hrd hi hsm ⟨P13, lw13, k13, r13⟩
                        have hb13 := B12.out.trans (r13.below (fun k hk => hk.elim (K12.out k) (fun h => h ▸ HK6.out.2.1)) B12.out.size)
                        refine ⟨DW.since lw13.dw (fun k hk => (k13 k hk).elim (K12.out k) (fun h => Nat.le_trans B12.out.size h)) h3, hb13, TX12.out.beside r13 (fun k hk hx => hx.elim (HO12.out k hk).1 (HO12.out k hk).2), hrd, hi, hsm.mono (by omega), ?_, ?_⟩
                        · have := HBD.out.2.1
                          have := HL1.out
                          omega
                        · have := HBD.out.2.2
                          omega)
                      have i12 := HIN.out.life.inv
                      have s12 := HBD.out.1
                      cases cm with
                      | false =>
                        obtain rfl : false = cv := hcv
                        have hrd := HIN.out.crashReady ck bytes
                        rw [HLo2.out] at hrd
                        have HCr := Lib.hid (LW12.out.crashC i12 s12 (by omega) ck (.slice ba bytes.length bc) bytes (irow_from (B := w.heap.size) HI.out B12.out) (fun y hy hp => by have := K12.out y hp; omega) (by omega))
                        have i13 := i12.crash ck bytes
                        have s13 := s12.crash ck bytes
                        have HE := Lib.hid (fun w13 => HEnd.out _ w13 hrd i13 s13)
                        clear hrd i13 s13 i12 s12
                        go_wp2_with fail
                        refine HCr.out.mono ?_
                        rintro e w13 ⟨rfl, le13⟩
                        have FDz := Lib.hid (HE.out _ le13)
                        clear le13 c0 c4 c5 c6
                        rw [← HW2.out] at FDz
                        go_wp2
                        go_roundw
                        case rel => exact ⟨k + 1, _, all2, lo2, _, v2, by omega, by go_num, rfl, rfl, rfl, FDz⟩
                        case measure => simp [intOf]; omega
                      | true =>
                        cases dn with
                        | false =>
                          have hcv : (!br) = cv := by rw [← hcv]; cases br <;> rfl
                          have hrd := HIN.out.calmReady HDn2.out
                          rw [HBr2.out, HLo2.out] at hrd
                          rw [show (!br) = cv from hcv] at hrd
                          have HPl := Lib.hid (LW12.out.planC s12 (by omega) (.slice none 0 0) [] (PRow.nil w12 (fun _ => False)) (by decide))
                          have i13 := i12.set []
                          have s13 := s12.set []
                          have HE := Lib.hid (fun w13 => HEnd.out _ w13 hrd i13 s13)
                          clear hrd i13 s13 i12 s12 hcv
                          go_wp2_with fail
                          refine HDn.out.mono ?_
                          rintro e wq ⟨rfl, hq⟩
                          obtain rfl := hq
                          go_wp2_with fail
                          refine HPl.out.mono ?_
                          rintro e w13 ⟨rfl, le13⟩
                          have FDz := Lib.hid (HE.out _ le13)
                          clear le13 c0 c4 c5 c6
                          rw [← HW2.out] at FDz
                          go_wp2
                          go_roundw
                          case rel => exact ⟨k + 1, _, all2, lo2, _, v2, by omega, by go_num, rfl, rfl, rfl, FDz⟩
                          case measure => simp [intOf]; omega
                        | true =>
                          have hcv : false = cv := by rw [← hcv]; cases br <;> rfl
                          subst hcv
                          have hrd := HIN.out.crashReady ck bytes
                          rw [HLo2.out] at hrd
                          have HCr := Lib.hid (LW12.out.crashC i12 s12 (by omega) ck (.slice ba bytes.length bc) bytes (irow_from (B := w.heap.size) HI.out B12.out) (fun y hy hp => by have := K12.out y hp; omega) (by omega))
                          have i13 := i12.crash ck bytes
                          have s13 := s12.crash ck bytes
                          have HE := Lib.hid (fun w13 => HEnd.out _ w13 hrd i13 s13)
                          clear hrd i13 s13 i12 s12
                          go_wp2_with fail
                          refine HDn.out.mono ?_
                          rintro e wq ⟨rfl, hq⟩
                          obtain rfl := hq
                          go_wp2_with fail
                          refine HCr.out.mono ?_
                          rintro e w13 ⟨rfl, le13⟩
                          have FDz := Lib.hid (HE.out _ le13)
                          clear le13 c0 c4 c5 c6
                          rw [← HW2.out] at FDz
                          go_wp2
                          go_roundw
                          case rel => exact ⟨k + 1, _, all2, lo2, _, v2, by omega, by go_num, rfl, rfl, rfl, FDz⟩
                          case measure => simp [intOf]; omega
        · obtain rfl : k = xs.length := by omega
          go_wp2_with fail
          refine (HSure.out _ fd.out.bel).mono ?_
          rintro e w4 ⟨rfl, b4⟩
          go_wp2
          go_ret
          exact ⟨rfl, fd.out.bel.trans (b4.mono fd.out.bel.size)⟩
end
end Go.Proofs.YtfbjmhipjfjaeaaGreatDoor
