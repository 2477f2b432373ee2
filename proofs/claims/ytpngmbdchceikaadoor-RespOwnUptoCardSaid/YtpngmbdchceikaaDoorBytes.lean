/- The walk of bytes. -/
import Derived.Test.YtpngmbdchceikaaDoorWrite
import Derived.Test.YtpngmbdchceikaaDoorBag
namespace Go.Proofs.YtpngmbdchceikaaDoor
open Go.ChangeShapes Go.WideShapes Go.ChangeAt Go.RowKit
open Pl (R)
set_option linter.unusedVariables false
set_option linter.unusedSimpArgs false

theorem Bag.start {B : Nat} {w0 w1 W : World} {v : Value} {l : List UInt8} {st : Bool} {ns : List (Nat × List UInt8)} (h : Bag B w0 w1 W v l st ns) : Bag B w0 W W v l true [] := ⟨h.own, h.bel, h.base, Spares.refl _, fun _ hm => by cases hm⟩
theorem Bag.box {B : Nat} {w0 w1 W : World} {v : Value} {l : List UInt8} {st : Bool} {ns : List (Nat × List UInt8)} (h : Bag B w0 w1 W v l st ns) {g : Nat} {a b c d : Value} (hg : Blk4 w1 g a b c d) : Blk4 W g a b c d := hg.kept (h.spr _ _ _ _ hg (by decide) (by decide))
/-- What bytes gives. -/
def BytesEnd (B : Nat) (w0 w : World) (bs : List UInt8) (e : Ending) (w' : World) : Prop := ∃ v', e = .returned v' ∧ Bag B w0 w w' v' bs true []
set_option maxRecDepth 100000 in
set_option maxHeartbeats 3200000 in
theorem bytes_1 (d : Nat) (t : List UInt8) (ht : t.length ≤ 1073741824) (n : Int) (hn1 : -9223372036854775808 ≤ n) (hn2 : n ≤ 9223372036854775807) (l : List R) (ao : Option Addr) (cp : Nat) (hl : l.length ≤ 1073741824) (w0 : World) (v : Value) (bs : List UInt8) (w : World) (hB : Bag w0.heap.size w0 w w v bs true []) (hlen : bs.length + (Pl.encL d (.mk 1 t n l)).length ≤ 140737488355328) : Calls Tryd.prog 33 #[v, .agg #[.int .i64 1, .string (str t), .int .i64 n, .slice ao l.length cp]] w (BytesEnd w0.heap.size w0 w (bs ++ Pl.encL d (.mk 1 t n l))) := by
  unfold BytesEnd
  rw [enc_1] at hlen ⊢
  have hle : Below w.heap.size w (w.alloc (.cells #[.int .i64 1, .string (str t), .int .i64 n, .slice ao l.length cp] 24)) := (Below.refl _ _).alloc (Nat.le_refl _) _
  have BAG0 := Lib.hid (hB.later hle).start
  have SP := Lib.hid (Spares.below hle)
  have P0 := Lib.hid (Blk4.new (w := w) (a := .int .i64 1) (b := .string (str t)) (c := .int .i64 n) (d := .slice ao l.length cp) rfl)
  have hts : (str t).size ≤ 1073741824 := by rw [str_size]; exact ht
  have HLEN := Lib.hid hlen
  clear hB hlen hle
  go_enter Tryd.func33, Tryd.ntmps33
  go_wp2_with fail
  have BAG := Lib.hid BAG0.out.drew
  refine wp_region_held_drew (S := (fun W => W.cell? ⟨w.heap.size, 1, none⟩ = some (.string (str t)))) (by kernel_rfl) ?_ (fun hHeld => ?_)
  · exact (BAG.out.box P0.out).cells.2.1
  refine wpAnyH_take (i := 0) (oi := (Go.Oper.mk (some 10) (Go.Op.move (Go.Operand.tmp 0)) 61 _ #[] none)) (v := ?_) rfl (by kernel_rfl) (by kernel_rfl) (by kernel_rfl) (fun _ _ _ h => h) (Or.inl ⟨by rfl, ?_⟩) hHeld ?_
  rotate_left
  · intro w hSw; (try dsimp only at hSw); go_simp; (try with_reducible rfl)
  simp only [Act.put, List.setIfInBounds_toArray, List.set_cons_zero, List.set_cons_succ]
  refine wpAnyH_take (i := 3) (oi := (Go.Oper.mk (some 13) (Go.Op.fieldAddr 24 (Go.Operand.tmp 3) 1) 0 _ #[] none)) (v := ?_) rfl (by kernel_rfl) (by kernel_rfl) (by kernel_rfl) (fun _ _ _ h => h) (Or.inl ⟨by rfl, ?_⟩) hHeld ?_
  rotate_left
  · intro w hSw; (try dsimp only at hSw); go_simp; (try with_reducible rfl)
  simp only [Act.put, List.setIfInBounds_toArray, List.set_cons_zero, List.set_cons_succ]
  refine wpAnyH_take (i := 4) (oi := (Go.Oper.mk (some 14) (Go.Op.load 9 (Go.Operand.tmp 13)) 9 _ #[Go.Edge.mk 3 Go.Ground.data] none)) (v := ?_) rfl (by kernel_rfl) (by kernel_rfl) (by kernel_rfl) (fun _ _ _ h => h) (Or.inl ⟨by rfl, ?_⟩) hHeld ?_
  rotate_left
  · intro w hSw; (try dsimp only at hSw); go_simp; (try with_reducible rfl)
  simp only [Act.put, List.setIfInBounds_toArray, List.set_cons_zero, List.set_cons_succ]
  refine wpAnyH_ready (rs := [1, 6]) (by kernel_rfl) (by simp) ?_
  refine (AllReadyH.cons (o := (Go.Oper.mk (some 11) (Go.Op.buildSlice 61 1 #[(0, Go.Operand.const (Go.Value.int Go.IntKind.u8 43))]) 61 _ #[] none)) rfl (fun K hK => ?_) (AllReadyH.cons (o := (Go.Oper.mk (some 16) (Go.Op.buildSlice 61 2 #[(0, Go.Operand.const (Go.Value.int Go.IntKind.u8 13)), (1, Go.Operand.const (Go.Value.int Go.IntKind.u8 10))]) 61 _ #[] none)) rfl (fun K hK => ?_) AllReadyH.nil))
  · skip
    go_simp
    have BAG := Lib.hid (BAG.out.build [43] #[.int .u8 43] rfl)
    refine hK.out _ _ ?_ (fun hHeld => ?_)
    · exact (BAG.out.box P0.out).cells.2.1
    clear hK K
    (try simp only [Act.put, List.setIfInBounds_toArray, List.set_cons_zero, List.set_cons_succ])
    refine wpAnyH_ready (rs := [2, 6]) (by kernel_rfl) (by simp) ?_
    refine (AllReadyH.cons (o := (Go.Oper.mk (some 12) (Go.Op.call (Go.Call.mk (Go.Callee.builtin Go.Builtin.append) #[Go.Operand.tmp 10, Go.Operand.tmp 11] #[61, 61])) 61 _ #[Go.Edge.mk 0 Go.Ground.data, Go.Edge.mk 1 Go.Ground.data] none)) rfl (fun K hK => ?_) (AllReadyH.cons (o := (Go.Oper.mk (some 16) (Go.Op.buildSlice 61 2 #[(0, Go.Operand.const (Go.Value.int Go.IntKind.u8 13)), (1, Go.Operand.const (Go.Value.int Go.IntKind.u8 10))]) 61 _ #[] none)) rfl (fun K hK => ?_) AllReadyH.nil))
    · skip
      (rw [if_pos (by rfl)]; refine bag_app BAG.out (.tmp 10) (.tmp 11) rfl rfl _ [43] _ rfl (by simp) (by have := HLEN.out; simp at this ⊢; omega) ?_; intro v1 W1 hbag; have BAG := Lib.hid hbag; clear hbag)
      refine hK.out _ _ ?_ (fun hHeld => ?_)
      · exact (BAG.out.box P0.out).cells.2.1
      clear hK K
      (try simp only [Act.put, List.setIfInBounds_toArray, List.set_cons_zero, List.set_cons_succ])
      refine wpAnyH_ready (rs := [5, 6]) (by kernel_rfl) (by simp) ?_
      refine (AllReadyH.cons (o := (Go.Oper.mk (some 15) (Go.Op.call (Go.Call.mk (Go.Callee.builtin Go.Builtin.append) #[Go.Operand.tmp 12, Go.Operand.tmp 14] #[61, 9])) 61 _ #[Go.Edge.mk 2 Go.Ground.data, Go.Edge.mk 4 Go.Ground.data, Go.Edge.mk 2 Go.Ground.chain] none)) rfl (fun K hK => ?_) (AllReadyH.cons (o := (Go.Oper.mk (some 16) (Go.Op.buildSlice 61 2 #[(0, Go.Operand.const (Go.Value.int Go.IntKind.u8 13)), (1, Go.Operand.const (Go.Value.int Go.IntKind.u8 10))]) 61 _ #[] none)) rfl (fun K hK => ?_) AllReadyH.nil))
      · skip
        (rw [if_pos (by rfl)]; refine bag_str BAG.out (.tmp 12) (.tmp 14) rfl rfl (str t) (t) (by first | rfl | simp [str] | (rw [str_size]; rfl)) rfl (by have := HLEN.out; simp at this ⊢; omega) ?_; intro v2 W2 hbag; have BAG := Lib.hid hbag; clear hbag)
        refine hK.out _ _ ?_ (fun hHeld => ?_)
        · exact (BAG.out.box P0.out).cells.2.1
        clear hK K
        (try simp only [Act.put, List.setIfInBounds_toArray, List.set_cons_zero, List.set_cons_succ])
        refine wpAnyH_ready (rs := [6]) (by kernel_rfl) (by simp) ?_
        refine (AllReadyH.cons (o := (Go.Oper.mk (some 16) (Go.Op.buildSlice 61 2 #[(0, Go.Operand.const (Go.Value.int Go.IntKind.u8 13)), (1, Go.Operand.const (Go.Value.int Go.IntKind.u8 10))]) 61 _ #[] none)) rfl (fun K hK => ?_) AllReadyH.nil)
        · skip
          go_simp
          have BAG := Lib.hid (BAG.out.build [13, 10] #[.int .u8 13, .int .u8 10] rfl)
          refine hK.out _ _ ?_ (fun hHeld => ?_)
          · exact (BAG.out.box P0.out).cells.2.1
          clear hK K
          (try simp only [Act.put, List.setIfInBounds_toArray, List.set_cons_zero, List.set_cons_succ])
          refine wpAnyH_ready (rs := [7]) (by kernel_rfl) (by simp) ?_
          refine (AllReadyH.cons (o := (Go.Oper.mk (some 17) (Go.Op.call (Go.Call.mk (Go.Callee.builtin Go.Builtin.append) #[Go.Operand.tmp 15, Go.Operand.tmp 16] #[61, 61])) 61 _ #[Go.Edge.mk 5 Go.Ground.data, Go.Edge.mk 6 Go.Ground.data, Go.Edge.mk 5 Go.Ground.chain] none)) rfl (fun K hK => ?_) AllReadyH.nil)
          · skip
            (rw [if_pos (by rfl)]; refine bag_last BAG.out (.tmp 15) (.tmp 16) rfl rfl _ [13, 10] _ rfl (by simp) (by have := HLEN.out; simp at this ⊢; omega) ?_; intro v3 W3 hbag; have BAG := Lib.hid hbag; clear hbag)
            refine hK.out _ _ ?_ (fun hHeld => ?_)
            · exact (BAG.out.box P0.out).cells.2.1
            clear hK K
            (try simp only [Act.put, List.setIfInBounds_toArray, List.set_cons_zero, List.set_cons_succ])
            refine wpAnyH_take (i := 8) (oi := (Go.Oper.mk (some 4) (Go.Op.assign (Go.Operand.tmp 17)) 61 _ #[Go.Edge.mk 7 Go.Ground.data, Go.Edge.mk 7 Go.Ground.chain, Go.Edge.mk 0 Go.Ground.phase, Go.Edge.mk 1 Go.Ground.phase, Go.Edge.mk 2 Go.Ground.phase, Go.Edge.mk 3 Go.Ground.phase, Go.Edge.mk 4 Go.Ground.phase, Go.Edge.mk 5 Go.Ground.phase, Go.Edge.mk 6 Go.Ground.phase, Go.Edge.mk 7 Go.Ground.phase] none)) (v := ?_) rfl (by kernel_rfl) (by kernel_rfl) (by kernel_rfl) (fun _ _ _ h => h) (Or.inl ⟨by rfl, ?_⟩) hHeld ?_
            rotate_left
            · intro w hSw; (try dsimp only at hSw); go_simp; (try with_reducible rfl)
            simp only [Act.put, List.setIfInBounds_toArray, List.set_cons_zero, List.set_cons_succ]
            refine wpAnyH_done (by kernel_rfl) ?_ _
            go_wp2
            go_ret
            exact ⟨_, rfl, by simpa using BAG.out.from1 SP.out⟩
      · skip
        go_simp
        have BAG := Lib.hid (BAG.out.build [13, 10] #[.int .u8 13, .int .u8 10] rfl)
        refine hK.out _ _ ?_ (fun hHeld => ?_)
        · exact (BAG.out.box P0.out).cells.2.1
        clear hK K
        (try simp only [Act.put, List.setIfInBounds_toArray, List.set_cons_zero, List.set_cons_succ])
        refine wpAnyH_ready (rs := [5]) (by kernel_rfl) (by simp) ?_
        refine (AllReadyH.cons (o := (Go.Oper.mk (some 15) (Go.Op.call (Go.Call.mk (Go.Callee.builtin Go.Builtin.append) #[Go.Operand.tmp 12, Go.Operand.tmp 14] #[61, 9])) 61 _ #[Go.Edge.mk 2 Go.Ground.data, Go.Edge.mk 4 Go.Ground.data, Go.Edge.mk 2 Go.Ground.chain] none)) rfl (fun K hK => ?_) AllReadyH.nil)
        · skip
          (rw [if_pos (by rfl)]; refine bag_str BAG.out (.tmp 12) (.tmp 14) rfl rfl (str t) (t) (by first | rfl | simp [str] | (rw [str_size]; rfl)) rfl (by have := HLEN.out; simp at this ⊢; omega) ?_; intro v2 W2 hbag; have BAG := Lib.hid hbag; clear hbag)
          refine hK.out _ _ ?_ (fun hHeld => ?_)
          · exact (BAG.out.box P0.out).cells.2.1
          clear hK K
          (try simp only [Act.put, List.setIfInBounds_toArray, List.set_cons_zero, List.set_cons_succ])
          refine wpAnyH_ready (rs := [7]) (by kernel_rfl) (by simp) ?_
          refine (AllReadyH.cons (o := (Go.Oper.mk (some 17) (Go.Op.call (Go.Call.mk (Go.Callee.builtin Go.Builtin.append) #[Go.Operand.tmp 15, Go.Operand.tmp 16] #[61, 61])) 61 _ #[Go.Edge.mk 5 Go.Ground.data, Go.Edge.mk 6 Go.Ground.data, Go.Edge.mk 5 Go.Ground.chain] none)) rfl (fun K hK => ?_) AllReadyH.nil)
          · skip
            (rw [if_pos (by rfl)]; refine bag_last BAG.out (.tmp 15) (.tmp 16) rfl rfl _ [13, 10] _ rfl (by simp) (by have := HLEN.out; simp at this ⊢; omega) ?_; intro v3 W3 hbag; have BAG := Lib.hid hbag; clear hbag)
            refine hK.out _ _ ?_ (fun hHeld => ?_)
            · exact (BAG.out.box P0.out).cells.2.1
            clear hK K
            (try simp only [Act.put, List.setIfInBounds_toArray, List.set_cons_zero, List.set_cons_succ])
            refine wpAnyH_take (i := 8) (oi := (Go.Oper.mk (some 4) (Go.Op.assign (Go.Operand.tmp 17)) 61 _ #[Go.Edge.mk 7 Go.Ground.data, Go.Edge.mk 7 Go.Ground.chain, Go.Edge.mk 0 Go.Ground.phase, Go.Edge.mk 1 Go.Ground.phase, Go.Edge.mk 2 Go.Ground.phase, Go.Edge.mk 3 Go.Ground.phase, Go.Edge.mk 4 Go.Ground.phase, Go.Edge.mk 5 Go.Ground.phase, Go.Edge.mk 6 Go.Ground.phase, Go.Edge.mk 7 Go.Ground.phase] none)) (v := ?_) rfl (by kernel_rfl) (by kernel_rfl) (by kernel_rfl) (fun _ _ _ h => h) (Or.inl ⟨by rfl, ?_⟩) hHeld ?_
            rotate_left
            · intro w hSw; (try dsimp only at hSw); go_simp; (try with_reducible rfl)
            simp only [Act.put, List.setIfInBounds_toArray, List.set_cons_zero, List.set_cons_succ]
            refine wpAnyH_done (by kernel_rfl) ?_ _
            go_wp2
            go_ret
            exact ⟨_, rfl, by simpa using BAG.out.from1 SP.out⟩
    · skip
      go_simp
      have BAG := Lib.hid (BAG.out.build [13, 10] #[.int .u8 13, .int .u8 10] rfl)
      refine hK.out _ _ ?_ (fun hHeld => ?_)
      · exact (BAG.out.box P0.out).cells.2.1
      clear hK K
      (try simp only [Act.put, List.setIfInBounds_toArray, List.set_cons_zero, List.set_cons_succ])
      refine wpAnyH_ready (rs := [2]) (by kernel_rfl) (by simp) ?_
      refine (AllReadyH.cons (o := (Go.Oper.mk (some 12) (Go.Op.call (Go.Call.mk (Go.Callee.builtin Go.Builtin.append) #[Go.Operand.tmp 10, Go.Operand.tmp 11] #[61, 61])) 61 _ #[Go.Edge.mk 0 Go.Ground.data, Go.Edge.mk 1 Go.Ground.data] none)) rfl (fun K hK => ?_) AllReadyH.nil)
      · skip
        (rw [if_pos (by rfl)]; refine bag_app BAG.out (.tmp 10) (.tmp 11) rfl rfl _ [43] _ rfl (by simp) (by have := HLEN.out; simp at this ⊢; omega) ?_; intro v1 W1 hbag; have BAG := Lib.hid hbag; clear hbag)
        refine hK.out _ _ ?_ (fun hHeld => ?_)
        · exact (BAG.out.box P0.out).cells.2.1
        clear hK K
        (try simp only [Act.put, List.setIfInBounds_toArray, List.set_cons_zero, List.set_cons_succ])
        refine wpAnyH_ready (rs := [5]) (by kernel_rfl) (by simp) ?_
        refine (AllReadyH.cons (o := (Go.Oper.mk (some 15) (Go.Op.call (Go.Call.mk (Go.Callee.builtin Go.Builtin.append) #[Go.Operand.tmp 12, Go.Operand.tmp 14] #[61, 9])) 61 _ #[Go.Edge.mk 2 Go.Ground.data, Go.Edge.mk 4 Go.Ground.data, Go.Edge.mk 2 Go.Ground.chain] none)) rfl (fun K hK => ?_) AllReadyH.nil)
        · skip
          (rw [if_pos (by rfl)]; refine bag_str BAG.out (.tmp 12) (.tmp 14) rfl rfl (str t) (t) (by first | rfl | simp [str] | (rw [str_size]; rfl)) rfl (by have := HLEN.out; simp at this ⊢; omega) ?_; intro v2 W2 hbag; have BAG := Lib.hid hbag; clear hbag)
          refine hK.out _ _ ?_ (fun hHeld => ?_)
          · exact (BAG.out.box P0.out).cells.2.1
          clear hK K
          (try simp only [Act.put, List.setIfInBounds_toArray, List.set_cons_zero, List.set_cons_succ])
          refine wpAnyH_ready (rs := [7]) (by kernel_rfl) (by simp) ?_
          refine (AllReadyH.cons (o := (Go.Oper.mk (some 17) (Go.Op.call (Go.Call.mk (Go.Callee.builtin Go.Builtin.append) #[Go.Operand.tmp 15, Go.Operand.tmp 16] #[61, 61])) 61 _ #[Go.Edge.mk 5 Go.Ground.data, Go.Edge.mk 6 Go.Ground.data, Go.Edge.mk 5 Go.Ground.chain] none)) rfl (fun K hK => ?_) AllReadyH.nil)
          · skip
            (rw [if_pos (by rfl)]; refine bag_last BAG.out (.tmp 15) (.tmp 16) rfl rfl _ [13, 10] _ rfl (by simp) (by have := HLEN.out; simp at this ⊢; omega) ?_; intro v3 W3 hbag; have BAG := Lib.hid hbag; clear hbag)
            refine hK.out _ _ ?_ (fun hHeld => ?_)
            · exact (BAG.out.box P0.out).cells.2.1
            clear hK K
            (try simp only [Act.put, List.setIfInBounds_toArray, List.set_cons_zero, List.set_cons_succ])
            refine wpAnyH_take (i := 8) (oi := (Go.Oper.mk (some 4) (Go.Op.assign (Go.Operand.tmp 17)) 61 _ #[Go.Edge.mk 7 Go.Ground.data, Go.Edge.mk 7 Go.Ground.chain, Go.Edge.mk 0 Go.Ground.phase, Go.Edge.mk 1 Go.Ground.phase, Go.Edge.mk 2 Go.Ground.phase, Go.Edge.mk 3 Go.Ground.phase, Go.Edge.mk 4 Go.Ground.phase, Go.Edge.mk 5 Go.Ground.phase, Go.Edge.mk 6 Go.Ground.phase, Go.Edge.mk 7 Go.Ground.phase] none)) (v := ?_) rfl (by kernel_rfl) (by kernel_rfl) (by kernel_rfl) (fun _ _ _ h => h) (Or.inl ⟨by rfl, ?_⟩) hHeld ?_
            rotate_left
            · intro w hSw; (try dsimp only at hSw); go_simp; (try with_reducible rfl)
            simp only [Act.put, List.setIfInBounds_toArray, List.set_cons_zero, List.set_cons_succ]
            refine wpAnyH_done (by kernel_rfl) ?_ _
            go_wp2
            go_ret
            exact ⟨_, rfl, by simpa using BAG.out.from1 SP.out⟩
  · skip
    go_simp
    have BAG := Lib.hid (BAG.out.build [13, 10] #[.int .u8 13, .int .u8 10] rfl)
    refine hK.out _ _ ?_ (fun hHeld => ?_)
    · exact (BAG.out.box P0.out).cells.2.1
    clear hK K
    (try simp only [Act.put, List.setIfInBounds_toArray, List.set_cons_zero, List.set_cons_succ])
    refine wpAnyH_ready (rs := [1]) (by kernel_rfl) (by simp) ?_
    refine (AllReadyH.cons (o := (Go.Oper.mk (some 11) (Go.Op.buildSlice 61 1 #[(0, Go.Operand.const (Go.Value.int Go.IntKind.u8 43))]) 61 _ #[] none)) rfl (fun K hK => ?_) AllReadyH.nil)
    · skip
      go_simp
      have BAG := Lib.hid (BAG.out.build [43] #[.int .u8 43] rfl)
      refine hK.out _ _ ?_ (fun hHeld => ?_)
      · exact (BAG.out.box P0.out).cells.2.1
      clear hK K
      (try simp only [Act.put, List.setIfInBounds_toArray, List.set_cons_zero, List.set_cons_succ])
      refine wpAnyH_ready (rs := [2]) (by kernel_rfl) (by simp) ?_
      refine (AllReadyH.cons (o := (Go.Oper.mk (some 12) (Go.Op.call (Go.Call.mk (Go.Callee.builtin Go.Builtin.append) #[Go.Operand.tmp 10, Go.Operand.tmp 11] #[61, 61])) 61 _ #[Go.Edge.mk 0 Go.Ground.data, Go.Edge.mk 1 Go.Ground.data] none)) rfl (fun K hK => ?_) AllReadyH.nil)
      · skip
        (rw [if_pos (by rfl)]; refine bag_app BAG.out (.tmp 10) (.tmp 11) rfl rfl _ [43] _ rfl (by simp) (by have := HLEN.out; simp at this ⊢; omega) ?_; intro v1 W1 hbag; have BAG := Lib.hid hbag; clear hbag)
        refine hK.out _ _ ?_ (fun hHeld => ?_)
        · exact (BAG.out.box P0.out).cells.2.1
        clear hK K
        (try simp only [Act.put, List.setIfInBounds_toArray, List.set_cons_zero, List.set_cons_succ])
        refine wpAnyH_ready (rs := [5]) (by kernel_rfl) (by simp) ?_
        refine (AllReadyH.cons (o := (Go.Oper.mk (some 15) (Go.Op.call (Go.Call.mk (Go.Callee.builtin Go.Builtin.append) #[Go.Operand.tmp 12, Go.Operand.tmp 14] #[61, 9])) 61 _ #[Go.Edge.mk 2 Go.Ground.data, Go.Edge.mk 4 Go.Ground.data, Go.Edge.mk 2 Go.Ground.chain] none)) rfl (fun K hK => ?_) AllReadyH.nil)
        · skip
          (rw [if_pos (by rfl)]; refine bag_str BAG.out (.tmp 12) (.tmp 14) rfl rfl (str t) (t) (by first | rfl | simp [str] | (rw [str_size]; rfl)) rfl (by have := HLEN.out; simp at this ⊢; omega) ?_; intro v2 W2 hbag; have BAG := Lib.hid hbag; clear hbag)
          refine hK.out _ _ ?_ (fun hHeld => ?_)
          · exact (BAG.out.box P0.out).cells.2.1
          clear hK K
          (try simp only [Act.put, List.setIfInBounds_toArray, List.set_cons_zero, List.set_cons_succ])
          refine wpAnyH_ready (rs := [7]) (by kernel_rfl) (by simp) ?_
          refine (AllReadyH.cons (o := (Go.Oper.mk (some 17) (Go.Op.call (Go.Call.mk (Go.Callee.builtin Go.Builtin.append) #[Go.Operand.tmp 15, Go.Operand.tmp 16] #[61, 61])) 61 _ #[Go.Edge.mk 5 Go.Ground.data, Go.Edge.mk 6 Go.Ground.data, Go.Edge.mk 5 Go.Ground.chain] none)) rfl (fun K hK => ?_) AllReadyH.nil)
          · skip
            (rw [if_pos (by rfl)]; refine bag_last BAG.out (.tmp 15) (.tmp 16) rfl rfl _ [13, 10] _ rfl (by simp) (by have := HLEN.out; simp at this ⊢; omega) ?_; intro v3 W3 hbag; have BAG := Lib.hid hbag; clear hbag)
            refine hK.out _ _ ?_ (fun hHeld => ?_)
            · exact (BAG.out.box P0.out).cells.2.1
            clear hK K
            (try simp only [Act.put, List.setIfInBounds_toArray, List.set_cons_zero, List.set_cons_succ])
            refine wpAnyH_take (i := 8) (oi := (Go.Oper.mk (some 4) (Go.Op.assign (Go.Operand.tmp 17)) 61 _ #[Go.Edge.mk 7 Go.Ground.data, Go.Edge.mk 7 Go.Ground.chain, Go.Edge.mk 0 Go.Ground.phase, Go.Edge.mk 1 Go.Ground.phase, Go.Edge.mk 2 Go.Ground.phase, Go.Edge.mk 3 Go.Ground.phase, Go.Edge.mk 4 Go.Ground.phase, Go.Edge.mk 5 Go.Ground.phase, Go.Edge.mk 6 Go.Ground.phase, Go.Edge.mk 7 Go.Ground.phase] none)) (v := ?_) rfl (by kernel_rfl) (by kernel_rfl) (by kernel_rfl) (fun _ _ _ h => h) (Or.inl ⟨by rfl, ?_⟩) hHeld ?_
            rotate_left
            · intro w hSw; (try dsimp only at hSw); go_simp; (try with_reducible rfl)
            simp only [Act.put, List.setIfInBounds_toArray, List.set_cons_zero, List.set_cons_succ]
            refine wpAnyH_done (by kernel_rfl) ?_ _
            go_wp2
            go_ret
            exact ⟨_, rfl, by simpa using BAG.out.from1 SP.out⟩
set_option maxRecDepth 100000 in
set_option maxHeartbeats 3200000 in
theorem bytes_2 (d : Nat) (t : List UInt8) (ht : t.length ≤ 1073741824) (n : Int) (hn1 : -9223372036854775808 ≤ n) (hn2 : n ≤ 9223372036854775807) (l : List R) (ao : Option Addr) (cp : Nat) (hl : l.length ≤ 1073741824) (w0 : World) (v : Value) (bs : List UInt8) (w : World) (hB : Bag w0.heap.size w0 w w v bs true []) (hlen : bs.length + (Pl.encL d (.mk 2 t n l)).length ≤ 140737488355328) : Calls Tryd.prog 33 #[v, .agg #[.int .i64 2, .string (str t), .int .i64 n, .slice ao l.length cp]] w (BytesEnd w0.heap.size w0 w (bs ++ Pl.encL d (.mk 2 t n l))) := by
  unfold BytesEnd
  rw [enc_2] at hlen ⊢
  have hle : Below w.heap.size w (w.alloc (.cells #[.int .i64 2, .string (str t), .int .i64 n, .slice ao l.length cp] 24)) := (Below.refl _ _).alloc (Nat.le_refl _) _
  have BAG0 := Lib.hid (hB.later hle).start
  have SP := Lib.hid (Spares.below hle)
  have P0 := Lib.hid (Blk4.new (w := w) (a := .int .i64 2) (b := .string (str t)) (c := .int .i64 n) (d := .slice ao l.length cp) rfl)
  have hts : (str t).size ≤ 1073741824 := by rw [str_size]; exact ht
  have HLEN := Lib.hid hlen
  clear hB hlen hle
  go_enter Tryd.func33, Tryd.ntmps33
  go_wp2_with fail
  have BAG := Lib.hid BAG0.out.drew
  refine wp_region_held_drew (S := (fun W => W.cell? ⟨w.heap.size, 1, none⟩ = some (.string (str t)))) (by kernel_rfl) ?_ (fun hHeld => ?_)
  · exact (BAG.out.box P0.out).cells.2.1
  refine wpAnyH_take (i := 0) (oi := (Go.Oper.mk (some 20) (Go.Op.move (Go.Operand.tmp 0)) 61 _ #[] none)) (v := ?_) rfl (by kernel_rfl) (by kernel_rfl) (by kernel_rfl) (fun _ _ _ h => h) (Or.inl ⟨by rfl, ?_⟩) hHeld ?_
  rotate_left
  · intro w hSw; (try dsimp only at hSw); go_simp; (try with_reducible rfl)
  simp only [Act.put, List.setIfInBounds_toArray, List.set_cons_zero, List.set_cons_succ]
  refine wpAnyH_take (i := 3) (oi := (Go.Oper.mk (some 23) (Go.Op.fieldAddr 24 (Go.Operand.tmp 3) 1) 0 _ #[] none)) (v := ?_) rfl (by kernel_rfl) (by kernel_rfl) (by kernel_rfl) (fun _ _ _ h => h) (Or.inl ⟨by rfl, ?_⟩) hHeld ?_
  rotate_left
  · intro w hSw; (try dsimp only at hSw); go_simp; (try with_reducible rfl)
  simp only [Act.put, List.setIfInBounds_toArray, List.set_cons_zero, List.set_cons_succ]
  refine wpAnyH_take (i := 4) (oi := (Go.Oper.mk (some 24) (Go.Op.load 9 (Go.Operand.tmp 23)) 9 _ #[Go.Edge.mk 3 Go.Ground.data] none)) (v := ?_) rfl (by kernel_rfl) (by kernel_rfl) (by kernel_rfl) (fun _ _ _ h => h) (Or.inl ⟨by rfl, ?_⟩) hHeld ?_
  rotate_left
  · intro w hSw; (try dsimp only at hSw); go_simp; (try with_reducible rfl)
  simp only [Act.put, List.setIfInBounds_toArray, List.set_cons_zero, List.set_cons_succ]
  refine wpAnyH_ready (rs := [1, 6]) (by kernel_rfl) (by simp) ?_
  refine (AllReadyH.cons (o := (Go.Oper.mk (some 21) (Go.Op.buildSlice 61 1 #[(0, Go.Operand.const (Go.Value.int Go.IntKind.u8 45))]) 61 _ #[] none)) rfl (fun K hK => ?_) (AllReadyH.cons (o := (Go.Oper.mk (some 26) (Go.Op.buildSlice 61 2 #[(0, Go.Operand.const (Go.Value.int Go.IntKind.u8 13)), (1, Go.Operand.const (Go.Value.int Go.IntKind.u8 10))]) 61 _ #[] none)) rfl (fun K hK => ?_) AllReadyH.nil))
  · skip
    go_simp
    have BAG := Lib.hid (BAG.out.build [45] #[.int .u8 45] rfl)
    refine hK.out _ _ ?_ (fun hHeld => ?_)
    · exact (BAG.out.box P0.out).cells.2.1
    clear hK K
    (try simp only [Act.put, List.setIfInBounds_toArray, List.set_cons_zero, List.set_cons_succ])
    refine wpAnyH_ready (rs := [2, 6]) (by kernel_rfl) (by simp) ?_
    refine (AllReadyH.cons (o := (Go.Oper.mk (some 22) (Go.Op.call (Go.Call.mk (Go.Callee.builtin Go.Builtin.append) #[Go.Operand.tmp 20, Go.Operand.tmp 21] #[61, 61])) 61 _ #[Go.Edge.mk 0 Go.Ground.data, Go.Edge.mk 1 Go.Ground.data] none)) rfl (fun K hK => ?_) (AllReadyH.cons (o := (Go.Oper.mk (some 26) (Go.Op.buildSlice 61 2 #[(0, Go.Operand.const (Go.Value.int Go.IntKind.u8 13)), (1, Go.Operand.const (Go.Value.int Go.IntKind.u8 10))]) 61 _ #[] none)) rfl (fun K hK => ?_) AllReadyH.nil))
    · skip
      (rw [if_pos (by rfl)]; refine bag_app BAG.out (.tmp 20) (.tmp 21) rfl rfl _ [45] _ rfl (by simp) (by have := HLEN.out; simp at this ⊢; omega) ?_; intro v1 W1 hbag; have BAG := Lib.hid hbag; clear hbag)
      refine hK.out _ _ ?_ (fun hHeld => ?_)
      · exact (BAG.out.box P0.out).cells.2.1
      clear hK K
      (try simp only [Act.put, List.setIfInBounds_toArray, List.set_cons_zero, List.set_cons_succ])
      refine wpAnyH_ready (rs := [5, 6]) (by kernel_rfl) (by simp) ?_
      refine (AllReadyH.cons (o := (Go.Oper.mk (some 25) (Go.Op.call (Go.Call.mk (Go.Callee.builtin Go.Builtin.append) #[Go.Operand.tmp 22, Go.Operand.tmp 24] #[61, 9])) 61 _ #[Go.Edge.mk 2 Go.Ground.data, Go.Edge.mk 4 Go.Ground.data, Go.Edge.mk 2 Go.Ground.chain] none)) rfl (fun K hK => ?_) (AllReadyH.cons (o := (Go.Oper.mk (some 26) (Go.Op.buildSlice 61 2 #[(0, Go.Operand.const (Go.Value.int Go.IntKind.u8 13)), (1, Go.Operand.const (Go.Value.int Go.IntKind.u8 10))]) 61 _ #[] none)) rfl (fun K hK => ?_) AllReadyH.nil))
      · skip
        (rw [if_pos (by rfl)]; refine bag_str BAG.out (.tmp 22) (.tmp 24) rfl rfl (str t) (t) (by first | rfl | simp [str] | (rw [str_size]; rfl)) rfl (by have := HLEN.out; simp at this ⊢; omega) ?_; intro v2 W2 hbag; have BAG := Lib.hid hbag; clear hbag)
        refine hK.out _ _ ?_ (fun hHeld => ?_)
        · exact (BAG.out.box P0.out).cells.2.1
        clear hK K
        (try simp only [Act.put, List.setIfInBounds_toArray, List.set_cons_zero, List.set_cons_succ])
        refine wpAnyH_ready (rs := [6]) (by kernel_rfl) (by simp) ?_
        refine (AllReadyH.cons (o := (Go.Oper.mk (some 26) (Go.Op.buildSlice 61 2 #[(0, Go.Operand.const (Go.Value.int Go.IntKind.u8 13)), (1, Go.Operand.const (Go.Value.int Go.IntKind.u8 10))]) 61 _ #[] none)) rfl (fun K hK => ?_) AllReadyH.nil)
        · skip
          go_simp
          have BAG := Lib.hid (BAG.out.build [13, 10] #[.int .u8 13, .int .u8 10] rfl)
          refine hK.out _ _ ?_ (fun hHeld => ?_)
          · exact (BAG.out.box P0.out).cells.2.1
          clear hK K
          (try simp only [Act.put, List.setIfInBounds_toArray, List.set_cons_zero, List.set_cons_succ])
          refine wpAnyH_ready (rs := [7]) (by kernel_rfl) (by simp) ?_
          refine (AllReadyH.cons (o := (Go.Oper.mk (some 27) (Go.Op.call (Go.Call.mk (Go.Callee.builtin Go.Builtin.append) #[Go.Operand.tmp 25, Go.Operand.tmp 26] #[61, 61])) 61 _ #[Go.Edge.mk 5 Go.Ground.data, Go.Edge.mk 6 Go.Ground.data, Go.Edge.mk 5 Go.Ground.chain] none)) rfl (fun K hK => ?_) AllReadyH.nil)
          · skip
            (rw [if_pos (by rfl)]; refine bag_last BAG.out (.tmp 25) (.tmp 26) rfl rfl _ [13, 10] _ rfl (by simp) (by have := HLEN.out; simp at this ⊢; omega) ?_; intro v3 W3 hbag; have BAG := Lib.hid hbag; clear hbag)
            refine hK.out _ _ ?_ (fun hHeld => ?_)
            · exact (BAG.out.box P0.out).cells.2.1
            clear hK K
            (try simp only [Act.put, List.setIfInBounds_toArray, List.set_cons_zero, List.set_cons_succ])
            refine wpAnyH_take (i := 8) (oi := (Go.Oper.mk (some 4) (Go.Op.assign (Go.Operand.tmp 27)) 61 _ #[Go.Edge.mk 7 Go.Ground.data, Go.Edge.mk 7 Go.Ground.chain, Go.Edge.mk 0 Go.Ground.phase, Go.Edge.mk 1 Go.Ground.phase, Go.Edge.mk 2 Go.Ground.phase, Go.Edge.mk 3 Go.Ground.phase, Go.Edge.mk 4 Go.Ground.phase, Go.Edge.mk 5 Go.Ground.phase, Go.Edge.mk 6 Go.Ground.phase, Go.Edge.mk 7 Go.Ground.phase] none)) (v := ?_) rfl (by kernel_rfl) (by kernel_rfl) (by kernel_rfl) (fun _ _ _ h => h) (Or.inl ⟨by rfl, ?_⟩) hHeld ?_
            rotate_left
            · intro w hSw; (try dsimp only at hSw); go_simp; (try with_reducible rfl)
            simp only [Act.put, List.setIfInBounds_toArray, List.set_cons_zero, List.set_cons_succ]
            refine wpAnyH_done (by kernel_rfl) ?_ _
            go_wp2
            go_ret
            exact ⟨_, rfl, by simpa using BAG.out.from1 SP.out⟩
      · skip
        go_simp
        have BAG := Lib.hid (BAG.out.build [13, 10] #[.int .u8 13, .int .u8 10] rfl)
        refine hK.out _ _ ?_ (fun hHeld => ?_)
        · exact (BAG.out.box P0.out).cells.2.1
        clear hK K
        (try simp only [Act.put, List.setIfInBounds_toArray, List.set_cons_zero, List.set_cons_succ])
        refine wpAnyH_ready (rs := [5]) (by kernel_rfl) (by simp) ?_
        refine (AllReadyH.cons (o := (Go.Oper.mk (some 25) (Go.Op.call (Go.Call.mk (Go.Callee.builtin Go.Builtin.append) #[Go.Operand.tmp 22, Go.Operand.tmp 24] #[61, 9])) 61 _ #[Go.Edge.mk 2 Go.Ground.data, Go.Edge.mk 4 Go.Ground.data, Go.Edge.mk 2 Go.Ground.chain] none)) rfl (fun K hK => ?_) AllReadyH.nil)
        · skip
          (rw [if_pos (by rfl)]; refine bag_str BAG.out (.tmp 22) (.tmp 24) rfl rfl (str t) (t) (by first | rfl | simp [str] | (rw [str_size]; rfl)) rfl (by have := HLEN.out; simp at this ⊢; omega) ?_; intro v2 W2 hbag; have BAG := Lib.hid hbag; clear hbag)
          refine hK.out _ _ ?_ (fun hHeld => ?_)
          · exact (BAG.out.box P0.out).cells.2.1
          clear hK K
          (try simp only [Act.put, List.setIfInBounds_toArray, List.set_cons_zero, List.set_cons_succ])
          refine wpAnyH_ready (rs := [7]) (by kernel_rfl) (by simp) ?_
          refine (AllReadyH.cons (o := (Go.Oper.mk (some 27) (Go.Op.call (Go.Call.mk (Go.Callee.builtin Go.Builtin.append) #[Go.Operand.tmp 25, Go.Operand.tmp 26] #[61, 61])) 61 _ #[Go.Edge.mk 5 Go.Ground.data, Go.Edge.mk 6 Go.Ground.data, Go.Edge.mk 5 Go.Ground.chain] none)) rfl (fun K hK => ?_) AllReadyH.nil)
          · skip
            (rw [if_pos (by rfl)]; refine bag_last BAG.out (.tmp 25) (.tmp 26) rfl rfl _ [13, 10] _ rfl (by simp) (by have := HLEN.out; simp at this ⊢; omega) ?_; intro v3 W3 hbag; have BAG := Lib.hid hbag; clear hbag)
            refine hK.out _ _ ?_ (fun hHeld => ?_)
            · exact (BAG.out.box P0.out).cells.2.1
            clear hK K
            (try simp only [Act.put, List.setIfInBounds_toArray, List.set_cons_zero, List.set_cons_succ])
            refine wpAnyH_take (i := 8) (oi := (Go.Oper.mk (some 4) (Go.Op.assign (Go.Operand.tmp 27)) 61 _ #[Go.Edge.mk 7 Go.Ground.data, Go.Edge.mk 7 Go.Ground.chain, Go.Edge.mk 0 Go.Ground.phase, Go.Edge.mk 1 Go.Ground.phase, Go.Edge.mk 2 Go.Ground.phase, Go.Edge.mk 3 Go.Ground.phase, Go.Edge.mk 4 Go.Ground.phase, Go.Edge.mk 5 Go.Ground.phase, Go.Edge.mk 6 Go.Ground.phase, Go.Edge.mk 7 Go.Ground.phase] none)) (v := ?_) rfl (by kernel_rfl) (by kernel_rfl) (by kernel_rfl) (fun _ _ _ h => h) (Or.inl ⟨by rfl, ?_⟩) hHeld ?_
            rotate_left
            · intro w hSw; (try dsimp only at hSw); go_simp; (try with_reducible rfl)
            simp only [Act.put, List.setIfInBounds_toArray, List.set_cons_zero, List.set_cons_succ]
            refine wpAnyH_done (by kernel_rfl) ?_ _
            go_wp2
            go_ret
            exact ⟨_, rfl, by simpa using BAG.out.from1 SP.out⟩
    · skip
      go_simp
      have BAG := Lib.hid (BAG.out.build [13, 10] #[.int .u8 13, .int .u8 10] rfl)
      refine hK.out _ _ ?_ (fun hHeld => ?_)
      · exact (BAG.out.box P0.out).cells.2.1
      clear hK K
      (try simp only [Act.put, List.setIfInBounds_toArray, List.set_cons_zero, List.set_cons_succ])
      refine wpAnyH_ready (rs := [2]) (by kernel_rfl) (by simp) ?_
      refine (AllReadyH.cons (o := (Go.Oper.mk (some 22) (Go.Op.call (Go.Call.mk (Go.Callee.builtin Go.Builtin.append) #[Go.Operand.tmp 20, Go.Operand.tmp 21] #[61, 61])) 61 _ #[Go.Edge.mk 0 Go.Ground.data, Go.Edge.mk 1 Go.Ground.data] none)) rfl (fun K hK => ?_) AllReadyH.nil)
      · skip
        (rw [if_pos (by rfl)]; refine bag_app BAG.out (.tmp 20) (.tmp 21) rfl rfl _ [45] _ rfl (by simp) (by have := HLEN.out; simp at this ⊢; omega) ?_; intro v1 W1 hbag; have BAG := Lib.hid hbag; clear hbag)
        refine hK.out _ _ ?_ (fun hHeld => ?_)
        · exact (BAG.out.box P0.out).cells.2.1
        clear hK K
        (try simp only [Act.put, List.setIfInBounds_toArray, List.set_cons_zero, List.set_cons_succ])
        refine wpAnyH_ready (rs := [5]) (by kernel_rfl) (by simp) ?_
        refine (AllReadyH.cons (o := (Go.Oper.mk (some 25) (Go.Op.call (Go.Call.mk (Go.Callee.builtin Go.Builtin.append) #[Go.Operand.tmp 22, Go.Operand.tmp 24] #[61, 9])) 61 _ #[Go.Edge.mk 2 Go.Ground.data, Go.Edge.mk 4 Go.Ground.data, Go.Edge.mk 2 Go.Ground.chain] none)) rfl (fun K hK => ?_) AllReadyH.nil)
        · skip
          (rw [if_pos (by rfl)]; refine bag_str BAG.out (.tmp 22) (.tmp 24) rfl rfl (str t) (t) (by first | rfl | simp [str] | (rw [str_size]; rfl)) rfl (by have := HLEN.out; simp at this ⊢; omega) ?_; intro v2 W2 hbag; have BAG := Lib.hid hbag; clear hbag)
          refine hK.out _ _ ?_ (fun hHeld => ?_)
          · exact (BAG.out.box P0.out).cells.2.1
          clear hK K
          (try simp only [Act.put, List.setIfInBounds_toArray, List.set_cons_zero, List.set_cons_succ])
          refine wpAnyH_ready (rs := [7]) (by kernel_rfl) (by simp) ?_
          refine (AllReadyH.cons (o := (Go.Oper.mk (some 27) (Go.Op.call (Go.Call.mk (Go.Callee.builtin Go.Builtin.append) #[Go.Operand.tmp 25, Go.Operand.tmp 26] #[61, 61])) 61 _ #[Go.Edge.mk 5 Go.Ground.data, Go.Edge.mk 6 Go.Ground.data, Go.Edge.mk 5 Go.Ground.chain] none)) rfl (fun K hK => ?_) AllReadyH.nil)
          · skip
            (rw [if_pos (by rfl)]; refine bag_last BAG.out (.tmp 25) (.tmp 26) rfl rfl _ [13, 10] _ rfl (by simp) (by have := HLEN.out; simp at this ⊢; omega) ?_; intro v3 W3 hbag; have BAG := Lib.hid hbag; clear hbag)
            refine hK.out _ _ ?_ (fun hHeld => ?_)
            · exact (BAG.out.box P0.out).cells.2.1
            clear hK K
            (try simp only [Act.put, List.setIfInBounds_toArray, List.set_cons_zero, List.set_cons_succ])
            refine wpAnyH_take (i := 8) (oi := (Go.Oper.mk (some 4) (Go.Op.assign (Go.Operand.tmp 27)) 61 _ #[Go.Edge.mk 7 Go.Ground.data, Go.Edge.mk 7 Go.Ground.chain, Go.Edge.mk 0 Go.Ground.phase, Go.Edge.mk 1 Go.Ground.phase, Go.Edge.mk 2 Go.Ground.phase, Go.Edge.mk 3 Go.Ground.phase, Go.Edge.mk 4 Go.Ground.phase, Go.Edge.mk 5 Go.Ground.phase, Go.Edge.mk 6 Go.Ground.phase, Go.Edge.mk 7 Go.Ground.phase] none)) (v := ?_) rfl (by kernel_rfl) (by kernel_rfl) (by kernel_rfl) (fun _ _ _ h => h) (Or.inl ⟨by rfl, ?_⟩) hHeld ?_
            rotate_left
            · intro w hSw; (try dsimp only at hSw); go_simp; (try with_reducible rfl)
            simp only [Act.put, List.setIfInBounds_toArray, List.set_cons_zero, List.set_cons_succ]
            refine wpAnyH_done (by kernel_rfl) ?_ _
            go_wp2
            go_ret
            exact ⟨_, rfl, by simpa using BAG.out.from1 SP.out⟩
  · skip
    go_simp
    have BAG := Lib.hid (BAG.out.build [13, 10] #[.int .u8 13, .int .u8 10] rfl)
    refine hK.out _ _ ?_ (fun hHeld => ?_)
    · exact (BAG.out.box P0.out).cells.2.1
    clear hK K
    (try simp only [Act.put, List.setIfInBounds_toArray, List.set_cons_zero, List.set_cons_succ])
    refine wpAnyH_ready (rs := [1]) (by kernel_rfl) (by simp) ?_
    refine (AllReadyH.cons (o := (Go.Oper.mk (some 21) (Go.Op.buildSlice 61 1 #[(0, Go.Operand.const (Go.Value.int Go.IntKind.u8 45))]) 61 _ #[] none)) rfl (fun K hK => ?_) AllReadyH.nil)
    · skip
      go_simp
      have BAG := Lib.hid (BAG.out.build [45] #[.int .u8 45] rfl)
      refine hK.out _ _ ?_ (fun hHeld => ?_)
      · exact (BAG.out.box P0.out).cells.2.1
      clear hK K
      (try simp only [Act.put, List.setIfInBounds_toArray, List.set_cons_zero, List.set_cons_succ])
      refine wpAnyH_ready (rs := [2]) (by kernel_rfl) (by simp) ?_
      refine (AllReadyH.cons (o := (Go.Oper.mk (some 22) (Go.Op.call (Go.Call.mk (Go.Callee.builtin Go.Builtin.append) #[Go.Operand.tmp 20, Go.Operand.tmp 21] #[61, 61])) 61 _ #[Go.Edge.mk 0 Go.Ground.data, Go.Edge.mk 1 Go.Ground.data] none)) rfl (fun K hK => ?_) AllReadyH.nil)
      · skip
        (rw [if_pos (by rfl)]; refine bag_app BAG.out (.tmp 20) (.tmp 21) rfl rfl _ [45] _ rfl (by simp) (by have := HLEN.out; simp at this ⊢; omega) ?_; intro v1 W1 hbag; have BAG := Lib.hid hbag; clear hbag)
        refine hK.out _ _ ?_ (fun hHeld => ?_)
        · exact (BAG.out.box P0.out).cells.2.1
        clear hK K
        (try simp only [Act.put, List.setIfInBounds_toArray, List.set_cons_zero, List.set_cons_succ])
        refine wpAnyH_ready (rs := [5]) (by kernel_rfl) (by simp) ?_
        refine (AllReadyH.cons (o := (Go.Oper.mk (some 25) (Go.Op.call (Go.Call.mk (Go.Callee.builtin Go.Builtin.append) #[Go.Operand.tmp 22, Go.Operand.tmp 24] #[61, 9])) 61 _ #[Go.Edge.mk 2 Go.Ground.data, Go.Edge.mk 4 Go.Ground.data, Go.Edge.mk 2 Go.Ground.chain] none)) rfl (fun K hK => ?_) AllReadyH.nil)
        · skip
          (rw [if_pos (by rfl)]; refine bag_str BAG.out (.tmp 22) (.tmp 24) rfl rfl (str t) (t) (by first | rfl | simp [str] | (rw [str_size]; rfl)) rfl (by have := HLEN.out; simp at this ⊢; omega) ?_; intro v2 W2 hbag; have BAG := Lib.hid hbag; clear hbag)
          refine hK.out _ _ ?_ (fun hHeld => ?_)
          · exact (BAG.out.box P0.out).cells.2.1
          clear hK K
          (try simp only [Act.put, List.setIfInBounds_toArray, List.set_cons_zero, List.set_cons_succ])
          refine wpAnyH_ready (rs := [7]) (by kernel_rfl) (by simp) ?_
          refine (AllReadyH.cons (o := (Go.Oper.mk (some 27) (Go.Op.call (Go.Call.mk (Go.Callee.builtin Go.Builtin.append) #[Go.Operand.tmp 25, Go.Operand.tmp 26] #[61, 61])) 61 _ #[Go.Edge.mk 5 Go.Ground.data, Go.Edge.mk 6 Go.Ground.data, Go.Edge.mk 5 Go.Ground.chain] none)) rfl (fun K hK => ?_) AllReadyH.nil)
          · skip
            (rw [if_pos (by rfl)]; refine bag_last BAG.out (.tmp 25) (.tmp 26) rfl rfl _ [13, 10] _ rfl (by simp) (by have := HLEN.out; simp at this ⊢; omega) ?_; intro v3 W3 hbag; have BAG := Lib.hid hbag; clear hbag)
            refine hK.out _ _ ?_ (fun hHeld => ?_)
            · exact (BAG.out.box P0.out).cells.2.1
            clear hK K
            (try simp only [Act.put, List.setIfInBounds_toArray, List.set_cons_zero, List.set_cons_succ])
            refine wpAnyH_take (i := 8) (oi := (Go.Oper.mk (some 4) (Go.Op.assign (Go.Operand.tmp 27)) 61 _ #[Go.Edge.mk 7 Go.Ground.data, Go.Edge.mk 7 Go.Ground.chain, Go.Edge.mk 0 Go.Ground.phase, Go.Edge.mk 1 Go.Ground.phase, Go.Edge.mk 2 Go.Ground.phase, Go.Edge.mk 3 Go.Ground.phase, Go.Edge.mk 4 Go.Ground.phase, Go.Edge.mk 5 Go.Ground.phase, Go.Edge.mk 6 Go.Ground.phase, Go.Edge.mk 7 Go.Ground.phase] none)) (v := ?_) rfl (by kernel_rfl) (by kernel_rfl) (by kernel_rfl) (fun _ _ _ h => h) (Or.inl ⟨by rfl, ?_⟩) hHeld ?_
            rotate_left
            · intro w hSw; (try dsimp only at hSw); go_simp; (try with_reducible rfl)
            simp only [Act.put, List.setIfInBounds_toArray, List.set_cons_zero, List.set_cons_succ]
            refine wpAnyH_done (by kernel_rfl) ?_ _
            go_wp2
            go_ret
            exact ⟨_, rfl, by simpa using BAG.out.from1 SP.out⟩
set_option maxRecDepth 100000 in
set_option maxHeartbeats 3200000 in
theorem bytes_3 (d : Nat) (t : List UInt8) (ht : t.length ≤ 1073741824) (n : Int) (hn1 : -9223372036854775808 ≤ n) (hn2 : n ≤ 9223372036854775807) (l : List R) (ao : Option Addr) (cp : Nat) (hl : l.length ≤ 1073741824) (w0 : World) (v : Value) (bs : List UInt8) (w : World) (hB : Bag w0.heap.size w0 w w v bs true []) (hlen : bs.length + (Pl.encL d (.mk 3 t n l)).length ≤ 140737488355328) : Calls Tryd.prog 33 #[v, .agg #[.int .i64 3, .string (str t), .int .i64 n, .slice ao l.length cp]] w (BytesEnd w0.heap.size w0 w (bs ++ Pl.encL d (.mk 3 t n l))) := by
  unfold BytesEnd
  rw [enc_3] at hlen ⊢
  have hle : Below w.heap.size w (w.alloc (.cells #[.int .i64 3, .string (str t), .int .i64 n, .slice ao l.length cp] 24)) := (Below.refl _ _).alloc (Nat.le_refl _) _
  have BAG0 := Lib.hid (hB.later hle).start
  have SP := Lib.hid (Spares.below hle)
  have P0 := Lib.hid (Blk4.new (w := w) (a := .int .i64 3) (b := .string (str t)) (c := .int .i64 n) (d := .slice ao l.length cp) rfl)
  have hts : (str t).size ≤ 1073741824 := by rw [str_size]; exact ht
  have HLEN := Lib.hid hlen
  clear hB hlen hle
  go_enter Tryd.func33, Tryd.ntmps33
  go_wp2_with fail
  have BAG := Lib.hid BAG0.out.drew
  refine wp_region_held_drew (S := (fun W => W.cell? ⟨w.heap.size, 2, none⟩ = some (.int .i64 n))) (by kernel_rfl) ?_ (fun hHeld => ?_)
  · exact (BAG.out.box P0.out).cells.2.2.1
  refine wpAnyH_take (i := 0) (oi := (Go.Oper.mk (some 30) (Go.Op.move (Go.Operand.tmp 0)) 61 _ #[] none)) (v := ?_) rfl (by kernel_rfl) (by kernel_rfl) (by kernel_rfl) (fun _ _ _ h => h) (Or.inl ⟨by rfl, ?_⟩) hHeld ?_
  rotate_left
  · intro w hSw; (try dsimp only at hSw); go_simp; (try with_reducible rfl)
  simp only [Act.put, List.setIfInBounds_toArray, List.set_cons_zero, List.set_cons_succ]
  refine wpAnyH_take (i := 3) (oi := (Go.Oper.mk (some 33) (Go.Op.fieldAddr 24 (Go.Operand.tmp 3) 2) 0 _ #[] none)) (v := ?_) rfl (by kernel_rfl) (by kernel_rfl) (by kernel_rfl) (fun _ _ _ h => h) (Or.inl ⟨by rfl, ?_⟩) hHeld ?_
  rotate_left
  · intro w hSw; (try dsimp only at hSw); go_simp; (try with_reducible rfl)
  simp only [Act.put, List.setIfInBounds_toArray, List.set_cons_zero, List.set_cons_succ]
  refine wpAnyH_take (i := 4) (oi := (Go.Oper.mk (some 34) (Go.Op.load 3 (Go.Operand.tmp 33)) 3 _ #[Go.Edge.mk 3 Go.Ground.data] none)) (v := ?_) rfl (by kernel_rfl) (by kernel_rfl) (by kernel_rfl) (fun _ _ _ h => h) (Or.inl ⟨by rfl, ?_⟩) hHeld ?_
  rotate_left
  · intro w hSw; (try dsimp only at hSw); go_simp; (try with_reducible rfl)
  simp only [Act.put, List.setIfInBounds_toArray, List.set_cons_zero, List.set_cons_succ]
  refine wpAnyH_ready (rs := [1, 7]) (by kernel_rfl) (by simp) ?_
  refine (AllReadyH.cons (o := (Go.Oper.mk (some 31) (Go.Op.buildSlice 61 1 #[(0, Go.Operand.const (Go.Value.int Go.IntKind.u8 58))]) 61 _ #[] none)) rfl (fun K hK => ?_) (AllReadyH.cons (o := (Go.Oper.mk (some 37) (Go.Op.buildSlice 61 2 #[(0, Go.Operand.const (Go.Value.int Go.IntKind.u8 13)), (1, Go.Operand.const (Go.Value.int Go.IntKind.u8 10))]) 61 _ #[] none)) rfl (fun K hK => ?_) AllReadyH.nil))
  · skip
    go_simp
    have BAG := Lib.hid (BAG.out.build [58] #[.int .u8 58] rfl)
    refine hK.out _ _ ?_ (fun hHeld => ?_)
    · exact (BAG.out.box P0.out).cells.2.2.1
    clear hK K
    (try simp only [Act.put, List.setIfInBounds_toArray, List.set_cons_zero, List.set_cons_succ])
    refine wpAnyH_ready (rs := [2, 7]) (by kernel_rfl) (by simp) ?_
    refine (AllReadyH.cons (o := (Go.Oper.mk (some 32) (Go.Op.call (Go.Call.mk (Go.Callee.builtin Go.Builtin.append) #[Go.Operand.tmp 30, Go.Operand.tmp 31] #[61, 61])) 61 _ #[Go.Edge.mk 0 Go.Ground.data, Go.Edge.mk 1 Go.Ground.data] none)) rfl (fun K hK => ?_) (AllReadyH.cons (o := (Go.Oper.mk (some 37) (Go.Op.buildSlice 61 2 #[(0, Go.Operand.const (Go.Value.int Go.IntKind.u8 13)), (1, Go.Operand.const (Go.Value.int Go.IntKind.u8 10))]) 61 _ #[] none)) rfl (fun K hK => ?_) AllReadyH.nil))
    · skip
      (rw [if_pos (by rfl)]; refine bag_app BAG.out (.tmp 30) (.tmp 31) rfl rfl _ [58] _ rfl (by simp) (by have := HLEN.out; simp at this ⊢; omega) ?_; intro v1 W1 hbag; have BAG := Lib.hid hbag; clear hbag)
      refine hK.out _ _ ?_ (fun hHeld => ?_)
      · exact (BAG.out.box P0.out).cells.2.2.1
      clear hK K
      (try simp only [Act.put, List.setIfInBounds_toArray, List.set_cons_zero, List.set_cons_succ])
      refine wpAnyH_ready (rs := [5, 7]) (by kernel_rfl) (by simp) ?_
      refine (AllReadyH.cons (o := (Go.Oper.mk (some 35) (Go.Op.call (Go.Call.mk (Go.Callee.value (Go.Operand.func 29)) #[Go.Operand.tmp 34] #[3])) 9 _ #[Go.Edge.mk 4 Go.Ground.data, Go.Edge.mk 2 Go.Ground.chain] none)) rfl (fun K hK => ?_) (AllReadyH.cons (o := (Go.Oper.mk (some 37) (Go.Op.buildSlice 61 2 #[(0, Go.Operand.const (Go.Value.int Go.IntKind.u8 13)), (1, Go.Operand.const (Go.Value.int Go.IntKind.u8 10))]) 61 _ #[] none)) rfl (fun K hK => ?_) AllReadyH.nil))
      · skip
        go_simp
        (with_reducible refine (refPrint_any n hn1 hn2 _).mono ?_); rintro e wx ⟨rfl, bx⟩; have BAG := Lib.hid (BAG.out.later bx); clear bx
        go_wp2_with fail
        refine hK.out _ _ ?_ (fun hHeld => ?_)
        · exact (BAG.out.box P0.out).cells.2.2.1
        clear hK K
        (try simp only [Act.put, List.setIfInBounds_toArray, List.set_cons_zero, List.set_cons_succ])
        refine wpAnyH_ready (rs := [6, 7]) (by kernel_rfl) (by simp) ?_
        refine (AllReadyH.cons (o := (Go.Oper.mk (some 36) (Go.Op.call (Go.Call.mk (Go.Callee.builtin Go.Builtin.append) #[Go.Operand.tmp 32, Go.Operand.tmp 35] #[61, 9])) 61 _ #[Go.Edge.mk 2 Go.Ground.data, Go.Edge.mk 5 Go.Ground.data, Go.Edge.mk 5 Go.Ground.chain] none)) rfl (fun K hK => ?_) (AllReadyH.cons (o := (Go.Oper.mk (some 37) (Go.Op.buildSlice 61 2 #[(0, Go.Operand.const (Go.Value.int Go.IntKind.u8 13)), (1, Go.Operand.const (Go.Value.int Go.IntKind.u8 10))]) 61 _ #[] none)) rfl (fun K hK => ?_) AllReadyH.nil))
        · skip
          (rw [if_pos (by rfl)]; refine bag_str BAG.out (.tmp 32) (.tmp 35) rfl rfl (str (Lib.itoa n)) (Lib.itoa n) (by first | rfl | simp [str] | (rw [str_size]; rfl)) rfl (by have := HLEN.out; simp at this ⊢; omega) ?_; intro v2 W2 hbag; have BAG := Lib.hid hbag; clear hbag)
          refine hK.out _ _ ?_ (fun hHeld => ?_)
          · exact (BAG.out.box P0.out).cells.2.2.1
          clear hK K
          (try simp only [Act.put, List.setIfInBounds_toArray, List.set_cons_zero, List.set_cons_succ])
          refine wpAnyH_ready (rs := [7]) (by kernel_rfl) (by simp) ?_
          refine (AllReadyH.cons (o := (Go.Oper.mk (some 37) (Go.Op.buildSlice 61 2 #[(0, Go.Operand.const (Go.Value.int Go.IntKind.u8 13)), (1, Go.Operand.const (Go.Value.int Go.IntKind.u8 10))]) 61 _ #[] none)) rfl (fun K hK => ?_) AllReadyH.nil)
          · skip
            go_simp
            have BAG := Lib.hid (BAG.out.build [13, 10] #[.int .u8 13, .int .u8 10] rfl)
            refine hK.out _ _ ?_ (fun hHeld => ?_)
            · exact (BAG.out.box P0.out).cells.2.2.1
            clear hK K
            (try simp only [Act.put, List.setIfInBounds_toArray, List.set_cons_zero, List.set_cons_succ])
            refine wpAnyH_ready (rs := [8]) (by kernel_rfl) (by simp) ?_
            refine (AllReadyH.cons (o := (Go.Oper.mk (some 38) (Go.Op.call (Go.Call.mk (Go.Callee.builtin Go.Builtin.append) #[Go.Operand.tmp 36, Go.Operand.tmp 37] #[61, 61])) 61 _ #[Go.Edge.mk 6 Go.Ground.data, Go.Edge.mk 7 Go.Ground.data, Go.Edge.mk 6 Go.Ground.chain] none)) rfl (fun K hK => ?_) AllReadyH.nil)
            · skip
              (rw [if_pos (by rfl)]; refine bag_last BAG.out (.tmp 36) (.tmp 37) rfl rfl _ [13, 10] _ rfl (by simp) (by have := HLEN.out; simp at this ⊢; omega) ?_; intro v3 W3 hbag; have BAG := Lib.hid hbag; clear hbag)
              refine hK.out _ _ ?_ (fun hHeld => ?_)
              · exact (BAG.out.box P0.out).cells.2.2.1
              clear hK K
              (try simp only [Act.put, List.setIfInBounds_toArray, List.set_cons_zero, List.set_cons_succ])
              refine wpAnyH_take (i := 9) (oi := (Go.Oper.mk (some 4) (Go.Op.assign (Go.Operand.tmp 38)) 61 _ #[Go.Edge.mk 8 Go.Ground.data, Go.Edge.mk 8 Go.Ground.chain, Go.Edge.mk 0 Go.Ground.phase, Go.Edge.mk 1 Go.Ground.phase, Go.Edge.mk 2 Go.Ground.phase, Go.Edge.mk 3 Go.Ground.phase, Go.Edge.mk 4 Go.Ground.phase, Go.Edge.mk 5 Go.Ground.phase, Go.Edge.mk 6 Go.Ground.phase, Go.Edge.mk 7 Go.Ground.phase, Go.Edge.mk 8 Go.Ground.phase] none)) (v := ?_) rfl (by kernel_rfl) (by kernel_rfl) (by kernel_rfl) (fun _ _ _ h => h) (Or.inl ⟨by rfl, ?_⟩) hHeld ?_
              rotate_left
              · intro w hSw; (try dsimp only at hSw); go_simp; (try with_reducible rfl)
              simp only [Act.put, List.setIfInBounds_toArray, List.set_cons_zero, List.set_cons_succ]
              refine wpAnyH_done (by kernel_rfl) ?_ _
              go_wp2
              go_ret
              exact ⟨_, rfl, by simpa using BAG.out.from1 SP.out⟩
        · skip
          go_simp
          have BAG := Lib.hid (BAG.out.build [13, 10] #[.int .u8 13, .int .u8 10] rfl)
          refine hK.out _ _ ?_ (fun hHeld => ?_)
          · exact (BAG.out.box P0.out).cells.2.2.1
          clear hK K
          (try simp only [Act.put, List.setIfInBounds_toArray, List.set_cons_zero, List.set_cons_succ])
          refine wpAnyH_ready (rs := [6]) (by kernel_rfl) (by simp) ?_
          refine (AllReadyH.cons (o := (Go.Oper.mk (some 36) (Go.Op.call (Go.Call.mk (Go.Callee.builtin Go.Builtin.append) #[Go.Operand.tmp 32, Go.Operand.tmp 35] #[61, 9])) 61 _ #[Go.Edge.mk 2 Go.Ground.data, Go.Edge.mk 5 Go.Ground.data, Go.Edge.mk 5 Go.Ground.chain] none)) rfl (fun K hK => ?_) AllReadyH.nil)
          · skip
            (rw [if_pos (by rfl)]; refine bag_str BAG.out (.tmp 32) (.tmp 35) rfl rfl (str (Lib.itoa n)) (Lib.itoa n) (by first | rfl | simp [str] | (rw [str_size]; rfl)) rfl (by have := HLEN.out; simp at this ⊢; omega) ?_; intro v2 W2 hbag; have BAG := Lib.hid hbag; clear hbag)
            refine hK.out _ _ ?_ (fun hHeld => ?_)
            · exact (BAG.out.box P0.out).cells.2.2.1
            clear hK K
            (try simp only [Act.put, List.setIfInBounds_toArray, List.set_cons_zero, List.set_cons_succ])
            refine wpAnyH_ready (rs := [8]) (by kernel_rfl) (by simp) ?_
            refine (AllReadyH.cons (o := (Go.Oper.mk (some 38) (Go.Op.call (Go.Call.mk (Go.Callee.builtin Go.Builtin.append) #[Go.Operand.tmp 36, Go.Operand.tmp 37] #[61, 61])) 61 _ #[Go.Edge.mk 6 Go.Ground.data, Go.Edge.mk 7 Go.Ground.data, Go.Edge.mk 6 Go.Ground.chain] none)) rfl (fun K hK => ?_) AllReadyH.nil)
            · skip
              (rw [if_pos (by rfl)]; refine bag_last BAG.out (.tmp 36) (.tmp 37) rfl rfl _ [13, 10] _ rfl (by simp) (by have := HLEN.out; simp at this ⊢; omega) ?_; intro v3 W3 hbag; have BAG := Lib.hid hbag; clear hbag)
              refine hK.out _ _ ?_ (fun hHeld => ?_)
              · exact (BAG.out.box P0.out).cells.2.2.1
              clear hK K
              (try simp only [Act.put, List.setIfInBounds_toArray, List.set_cons_zero, List.set_cons_succ])
              refine wpAnyH_take (i := 9) (oi := (Go.Oper.mk (some 4) (Go.Op.assign (Go.Operand.tmp 38)) 61 _ #[Go.Edge.mk 8 Go.Ground.data, Go.Edge.mk 8 Go.Ground.chain, Go.Edge.mk 0 Go.Ground.phase, Go.Edge.mk 1 Go.Ground.phase, Go.Edge.mk 2 Go.Ground.phase, Go.Edge.mk 3 Go.Ground.phase, Go.Edge.mk 4 Go.Ground.phase, Go.Edge.mk 5 Go.Ground.phase, Go.Edge.mk 6 Go.Ground.phase, Go.Edge.mk 7 Go.Ground.phase, Go.Edge.mk 8 Go.Ground.phase] none)) (v := ?_) rfl (by kernel_rfl) (by kernel_rfl) (by kernel_rfl) (fun _ _ _ h => h) (Or.inl ⟨by rfl, ?_⟩) hHeld ?_
              rotate_left
              · intro w hSw; (try dsimp only at hSw); go_simp; (try with_reducible rfl)
              simp only [Act.put, List.setIfInBounds_toArray, List.set_cons_zero, List.set_cons_succ]
              refine wpAnyH_done (by kernel_rfl) ?_ _
              go_wp2
              go_ret
              exact ⟨_, rfl, by simpa using BAG.out.from1 SP.out⟩
      · skip
        go_simp
        have BAG := Lib.hid (BAG.out.build [13, 10] #[.int .u8 13, .int .u8 10] rfl)
        refine hK.out _ _ ?_ (fun hHeld => ?_)
        · exact (BAG.out.box P0.out).cells.2.2.1
        clear hK K
        (try simp only [Act.put, List.setIfInBounds_toArray, List.set_cons_zero, List.set_cons_succ])
        refine wpAnyH_ready (rs := [5]) (by kernel_rfl) (by simp) ?_
        refine (AllReadyH.cons (o := (Go.Oper.mk (some 35) (Go.Op.call (Go.Call.mk (Go.Callee.value (Go.Operand.func 29)) #[Go.Operand.tmp 34] #[3])) 9 _ #[Go.Edge.mk 4 Go.Ground.data, Go.Edge.mk 2 Go.Ground.chain] none)) rfl (fun K hK => ?_) AllReadyH.nil)
        · skip
          go_simp
          (with_reducible refine (refPrint_any n hn1 hn2 _).mono ?_); rintro e wx ⟨rfl, bx⟩; have BAG := Lib.hid (BAG.out.later bx); clear bx
          go_wp2_with fail
          refine hK.out _ _ ?_ (fun hHeld => ?_)
          · exact (BAG.out.box P0.out).cells.2.2.1
          clear hK K
          (try simp only [Act.put, List.setIfInBounds_toArray, List.set_cons_zero, List.set_cons_succ])
          refine wpAnyH_ready (rs := [6]) (by kernel_rfl) (by simp) ?_
          refine (AllReadyH.cons (o := (Go.Oper.mk (some 36) (Go.Op.call (Go.Call.mk (Go.Callee.builtin Go.Builtin.append) #[Go.Operand.tmp 32, Go.Operand.tmp 35] #[61, 9])) 61 _ #[Go.Edge.mk 2 Go.Ground.data, Go.Edge.mk 5 Go.Ground.data, Go.Edge.mk 5 Go.Ground.chain] none)) rfl (fun K hK => ?_) AllReadyH.nil)
          · skip
            (rw [if_pos (by rfl)]; refine bag_str BAG.out (.tmp 32) (.tmp 35) rfl rfl (str (Lib.itoa n)) (Lib.itoa n) (by first | rfl | simp [str] | (rw [str_size]; rfl)) rfl (by have := HLEN.out; simp at this ⊢; omega) ?_; intro v2 W2 hbag; have BAG := Lib.hid hbag; clear hbag)
            refine hK.out _ _ ?_ (fun hHeld => ?_)
            · exact (BAG.out.box P0.out).cells.2.2.1
            clear hK K
            (try simp only [Act.put, List.setIfInBounds_toArray, List.set_cons_zero, List.set_cons_succ])
            refine wpAnyH_ready (rs := [8]) (by kernel_rfl) (by simp) ?_
            refine (AllReadyH.cons (o := (Go.Oper.mk (some 38) (Go.Op.call (Go.Call.mk (Go.Callee.builtin Go.Builtin.append) #[Go.Operand.tmp 36, Go.Operand.tmp 37] #[61, 61])) 61 _ #[Go.Edge.mk 6 Go.Ground.data, Go.Edge.mk 7 Go.Ground.data, Go.Edge.mk 6 Go.Ground.chain] none)) rfl (fun K hK => ?_) AllReadyH.nil)
            · skip
              (rw [if_pos (by rfl)]; refine bag_last BAG.out (.tmp 36) (.tmp 37) rfl rfl _ [13, 10] _ rfl (by simp) (by have := HLEN.out; simp at this ⊢; omega) ?_; intro v3 W3 hbag; have BAG := Lib.hid hbag; clear hbag)
              refine hK.out _ _ ?_ (fun hHeld => ?_)
              · exact (BAG.out.box P0.out).cells.2.2.1
              clear hK K
              (try simp only [Act.put, List.setIfInBounds_toArray, List.set_cons_zero, List.set_cons_succ])
              refine wpAnyH_take (i := 9) (oi := (Go.Oper.mk (some 4) (Go.Op.assign (Go.Operand.tmp 38)) 61 _ #[Go.Edge.mk 8 Go.Ground.data, Go.Edge.mk 8 Go.Ground.chain, Go.Edge.mk 0 Go.Ground.phase, Go.Edge.mk 1 Go.Ground.phase, Go.Edge.mk 2 Go.Ground.phase, Go.Edge.mk 3 Go.Ground.phase, Go.Edge.mk 4 Go.Ground.phase, Go.Edge.mk 5 Go.Ground.phase, Go.Edge.mk 6 Go.Ground.phase, Go.Edge.mk 7 Go.Ground.phase, Go.Edge.mk 8 Go.Ground.phase] none)) (v := ?_) rfl (by kernel_rfl) (by kernel_rfl) (by kernel_rfl) (fun _ _ _ h => h) (Or.inl ⟨by rfl, ?_⟩) hHeld ?_
              rotate_left
              · intro w hSw; (try dsimp only at hSw); go_simp; (try with_reducible rfl)
              simp only [Act.put, List.setIfInBounds_toArray, List.set_cons_zero, List.set_cons_succ]
              refine wpAnyH_done (by kernel_rfl) ?_ _
              go_wp2
              go_ret
              exact ⟨_, rfl, by simpa using BAG.out.from1 SP.out⟩
    · skip
      go_simp
      have BAG := Lib.hid (BAG.out.build [13, 10] #[.int .u8 13, .int .u8 10] rfl)
      refine hK.out _ _ ?_ (fun hHeld => ?_)
      · exact (BAG.out.box P0.out).cells.2.2.1
      clear hK K
      (try simp only [Act.put, List.setIfInBounds_toArray, List.set_cons_zero, List.set_cons_succ])
      refine wpAnyH_ready (rs := [2]) (by kernel_rfl) (by simp) ?_
      refine (AllReadyH.cons (o := (Go.Oper.mk (some 32) (Go.Op.call (Go.Call.mk (Go.Callee.builtin Go.Builtin.append) #[Go.Operand.tmp 30, Go.Operand.tmp 31] #[61, 61])) 61 _ #[Go.Edge.mk 0 Go.Ground.data, Go.Edge.mk 1 Go.Ground.data] none)) rfl (fun K hK => ?_) AllReadyH.nil)
      · skip
        (rw [if_pos (by rfl)]; refine bag_app BAG.out (.tmp 30) (.tmp 31) rfl rfl _ [58] _ rfl (by simp) (by have := HLEN.out; simp at this ⊢; omega) ?_; intro v1 W1 hbag; have BAG := Lib.hid hbag; clear hbag)
        refine hK.out _ _ ?_ (fun hHeld => ?_)
        · exact (BAG.out.box P0.out).cells.2.2.1
        clear hK K
        (try simp only [Act.put, List.setIfInBounds_toArray, List.set_cons_zero, List.set_cons_succ])
        refine wpAnyH_ready (rs := [5]) (by kernel_rfl) (by simp) ?_
        refine (AllReadyH.cons (o := (Go.Oper.mk (some 35) (Go.Op.call (Go.Call.mk (Go.Callee.value (Go.Operand.func 29)) #[Go.Operand.tmp 34] #[3])) 9 _ #[Go.Edge.mk 4 Go.Ground.data, Go.Edge.mk 2 Go.Ground.chain] none)) rfl (fun K hK => ?_) AllReadyH.nil)
        · skip
          go_simp
          (with_reducible refine (refPrint_any n hn1 hn2 _).mono ?_); rintro e wx ⟨rfl, bx⟩; have BAG := Lib.hid (BAG.out.later bx); clear bx
          go_wp2_with fail
          refine hK.out _ _ ?_ (fun hHeld => ?_)
          · exact (BAG.out.box P0.out).cells.2.2.1
          clear hK K
          (try simp only [Act.put, List.setIfInBounds_toArray, List.set_cons_zero, List.set_cons_succ])
          refine wpAnyH_ready (rs := [6]) (by kernel_rfl) (by simp) ?_
          refine (AllReadyH.cons (o := (Go.Oper.mk (some 36) (Go.Op.call (Go.Call.mk (Go.Callee.builtin Go.Builtin.append) #[Go.Operand.tmp 32, Go.Operand.tmp 35] #[61, 9])) 61 _ #[Go.Edge.mk 2 Go.Ground.data, Go.Edge.mk 5 Go.Ground.data, Go.Edge.mk 5 Go.Ground.chain] none)) rfl (fun K hK => ?_) AllReadyH.nil)
          · skip
            (rw [if_pos (by rfl)]; refine bag_str BAG.out (.tmp 32) (.tmp 35) rfl rfl (str (Lib.itoa n)) (Lib.itoa n) (by first | rfl | simp [str] | (rw [str_size]; rfl)) rfl (by have := HLEN.out; simp at this ⊢; omega) ?_; intro v2 W2 hbag; have BAG := Lib.hid hbag; clear hbag)
            refine hK.out _ _ ?_ (fun hHeld => ?_)
            · exact (BAG.out.box P0.out).cells.2.2.1
            clear hK K
            (try simp only [Act.put, List.setIfInBounds_toArray, List.set_cons_zero, List.set_cons_succ])
            refine wpAnyH_ready (rs := [8]) (by kernel_rfl) (by simp) ?_
            refine (AllReadyH.cons (o := (Go.Oper.mk (some 38) (Go.Op.call (Go.Call.mk (Go.Callee.builtin Go.Builtin.append) #[Go.Operand.tmp 36, Go.Operand.tmp 37] #[61, 61])) 61 _ #[Go.Edge.mk 6 Go.Ground.data, Go.Edge.mk 7 Go.Ground.data, Go.Edge.mk 6 Go.Ground.chain] none)) rfl (fun K hK => ?_) AllReadyH.nil)
            · skip
              (rw [if_pos (by rfl)]; refine bag_last BAG.out (.tmp 36) (.tmp 37) rfl rfl _ [13, 10] _ rfl (by simp) (by have := HLEN.out; simp at this ⊢; omega) ?_; intro v3 W3 hbag; have BAG := Lib.hid hbag; clear hbag)
              refine hK.out _ _ ?_ (fun hHeld => ?_)
              · exact (BAG.out.box P0.out).cells.2.2.1
              clear hK K
              (try simp only [Act.put, List.setIfInBounds_toArray, List.set_cons_zero, List.set_cons_succ])
              refine wpAnyH_take (i := 9) (oi := (Go.Oper.mk (some 4) (Go.Op.assign (Go.Operand.tmp 38)) 61 _ #[Go.Edge.mk 8 Go.Ground.data, Go.Edge.mk 8 Go.Ground.chain, Go.Edge.mk 0 Go.Ground.phase, Go.Edge.mk 1 Go.Ground.phase, Go.Edge.mk 2 Go.Ground.phase, Go.Edge.mk 3 Go.Ground.phase, Go.Edge.mk 4 Go.Ground.phase, Go.Edge.mk 5 Go.Ground.phase, Go.Edge.mk 6 Go.Ground.phase, Go.Edge.mk 7 Go.Ground.phase, Go.Edge.mk 8 Go.Ground.phase] none)) (v := ?_) rfl (by kernel_rfl) (by kernel_rfl) (by kernel_rfl) (fun _ _ _ h => h) (Or.inl ⟨by rfl, ?_⟩) hHeld ?_
              rotate_left
              · intro w hSw; (try dsimp only at hSw); go_simp; (try with_reducible rfl)
              simp only [Act.put, List.setIfInBounds_toArray, List.set_cons_zero, List.set_cons_succ]
              refine wpAnyH_done (by kernel_rfl) ?_ _
              go_wp2
              go_ret
              exact ⟨_, rfl, by simpa using BAG.out.from1 SP.out⟩
  · skip
    go_simp
    have BAG := Lib.hid (BAG.out.build [13, 10] #[.int .u8 13, .int .u8 10] rfl)
    refine hK.out _ _ ?_ (fun hHeld => ?_)
    · exact (BAG.out.box P0.out).cells.2.2.1
    clear hK K
    (try simp only [Act.put, List.setIfInBounds_toArray, List.set_cons_zero, List.set_cons_succ])
    refine wpAnyH_ready (rs := [1]) (by kernel_rfl) (by simp) ?_
    refine (AllReadyH.cons (o := (Go.Oper.mk (some 31) (Go.Op.buildSlice 61 1 #[(0, Go.Operand.const (Go.Value.int Go.IntKind.u8 58))]) 61 _ #[] none)) rfl (fun K hK => ?_) AllReadyH.nil)
    · skip
      go_simp
      have BAG := Lib.hid (BAG.out.build [58] #[.int .u8 58] rfl)
      refine hK.out _ _ ?_ (fun hHeld => ?_)
      · exact (BAG.out.box P0.out).cells.2.2.1
      clear hK K
      (try simp only [Act.put, List.setIfInBounds_toArray, List.set_cons_zero, List.set_cons_succ])
      refine wpAnyH_ready (rs := [2]) (by kernel_rfl) (by simp) ?_
      refine (AllReadyH.cons (o := (Go.Oper.mk (some 32) (Go.Op.call (Go.Call.mk (Go.Callee.builtin Go.Builtin.append) #[Go.Operand.tmp 30, Go.Operand.tmp 31] #[61, 61])) 61 _ #[Go.Edge.mk 0 Go.Ground.data, Go.Edge.mk 1 Go.Ground.data] none)) rfl (fun K hK => ?_) AllReadyH.nil)
      · skip
        (rw [if_pos (by rfl)]; refine bag_app BAG.out (.tmp 30) (.tmp 31) rfl rfl _ [58] _ rfl (by simp) (by have := HLEN.out; simp at this ⊢; omega) ?_; intro v1 W1 hbag; have BAG := Lib.hid hbag; clear hbag)
        refine hK.out _ _ ?_ (fun hHeld => ?_)
        · exact (BAG.out.box P0.out).cells.2.2.1
        clear hK K
        (try simp only [Act.put, List.setIfInBounds_toArray, List.set_cons_zero, List.set_cons_succ])
        refine wpAnyH_ready (rs := [5]) (by kernel_rfl) (by simp) ?_
        refine (AllReadyH.cons (o := (Go.Oper.mk (some 35) (Go.Op.call (Go.Call.mk (Go.Callee.value (Go.Operand.func 29)) #[Go.Operand.tmp 34] #[3])) 9 _ #[Go.Edge.mk 4 Go.Ground.data, Go.Edge.mk 2 Go.Ground.chain] none)) rfl (fun K hK => ?_) AllReadyH.nil)
        · skip
          go_simp
          (with_reducible refine (refPrint_any n hn1 hn2 _).mono ?_); rintro e wx ⟨rfl, bx⟩; have BAG := Lib.hid (BAG.out.later bx); clear bx
          go_wp2_with fail
          refine hK.out _ _ ?_ (fun hHeld => ?_)
          · exact (BAG.out.box P0.out).cells.2.2.1
          clear hK K
          (try simp only [Act.put, List.setIfInBounds_toArray, List.set_cons_zero, List.set_cons_succ])
          refine wpAnyH_ready (rs := [6]) (by kernel_rfl) (by simp) ?_
          refine (AllReadyH.cons (o := (Go.Oper.mk (some 36) (Go.Op.call (Go.Call.mk (Go.Callee.builtin Go.Builtin.append) #[Go.Operand.tmp 32, Go.Operand.tmp 35] #[61, 9])) 61 _ #[Go.Edge.mk 2 Go.Ground.data, Go.Edge.mk 5 Go.Ground.data, Go.Edge.mk 5 Go.Ground.chain] none)) rfl (fun K hK => ?_) AllReadyH.nil)
          · skip
            (rw [if_pos (by rfl)]; refine bag_str BAG.out (.tmp 32) (.tmp 35) rfl rfl (str (Lib.itoa n)) (Lib.itoa n) (by first | rfl | simp [str] | (rw [str_size]; rfl)) rfl (by have := HLEN.out; simp at this ⊢; omega) ?_; intro v2 W2 hbag; have BAG := Lib.hid hbag; clear hbag)
            refine hK.out _ _ ?_ (fun hHeld => ?_)
            · exact (BAG.out.box P0.out).cells.2.2.1
            clear hK K
            (try simp only [Act.put, List.setIfInBounds_toArray, List.set_cons_zero, List.set_cons_succ])
            refine wpAnyH_ready (rs := [8]) (by kernel_rfl) (by simp) ?_
            refine (AllReadyH.cons (o := (Go.Oper.mk (some 38) (Go.Op.call (Go.Call.mk (Go.Callee.builtin Go.Builtin.append) #[Go.Operand.tmp 36, Go.Operand.tmp 37] #[61, 61])) 61 _ #[Go.Edge.mk 6 Go.Ground.data, Go.Edge.mk 7 Go.Ground.data, Go.Edge.mk 6 Go.Ground.chain] none)) rfl (fun K hK => ?_) AllReadyH.nil)
            · skip
              (rw [if_pos (by rfl)]; refine bag_last BAG.out (.tmp 36) (.tmp 37) rfl rfl _ [13, 10] _ rfl (by simp) (by have := HLEN.out; simp at this ⊢; omega) ?_; intro v3 W3 hbag; have BAG := Lib.hid hbag; clear hbag)
              refine hK.out _ _ ?_ (fun hHeld => ?_)
              · exact (BAG.out.box P0.out).cells.2.2.1
              clear hK K
              (try simp only [Act.put, List.setIfInBounds_toArray, List.set_cons_zero, List.set_cons_succ])
              refine wpAnyH_take (i := 9) (oi := (Go.Oper.mk (some 4) (Go.Op.assign (Go.Operand.tmp 38)) 61 _ #[Go.Edge.mk 8 Go.Ground.data, Go.Edge.mk 8 Go.Ground.chain, Go.Edge.mk 0 Go.Ground.phase, Go.Edge.mk 1 Go.Ground.phase, Go.Edge.mk 2 Go.Ground.phase, Go.Edge.mk 3 Go.Ground.phase, Go.Edge.mk 4 Go.Ground.phase, Go.Edge.mk 5 Go.Ground.phase, Go.Edge.mk 6 Go.Ground.phase, Go.Edge.mk 7 Go.Ground.phase, Go.Edge.mk 8 Go.Ground.phase] none)) (v := ?_) rfl (by kernel_rfl) (by kernel_rfl) (by kernel_rfl) (fun _ _ _ h => h) (Or.inl ⟨by rfl, ?_⟩) hHeld ?_
              rotate_left
              · intro w hSw; (try dsimp only at hSw); go_simp; (try with_reducible rfl)
              simp only [Act.put, List.setIfInBounds_toArray, List.set_cons_zero, List.set_cons_succ]
              refine wpAnyH_done (by kernel_rfl) ?_ _
              go_wp2
              go_ret
              exact ⟨_, rfl, by simpa using BAG.out.from1 SP.out⟩
set_option maxRecDepth 100000 in
set_option maxHeartbeats 3200000 in
theorem bytes_5 (d : Nat) (t : List UInt8) (ht : t.length ≤ 1073741824) (n : Int) (hn1 : -9223372036854775808 ≤ n) (hn2 : n ≤ 9223372036854775807) (l : List R) (ao : Option Addr) (cp : Nat) (hl : l.length ≤ 1073741824) (w0 : World) (v : Value) (bs : List UInt8) (w : World) (hB : Bag w0.heap.size w0 w w v bs true []) (hlen : bs.length + (Pl.encL d (.mk 5 t n l)).length ≤ 140737488355328) : Calls Tryd.prog 33 #[v, .agg #[.int .i64 5, .string (str t), .int .i64 n, .slice ao l.length cp]] w (BytesEnd w0.heap.size w0 w (bs ++ Pl.encL d (.mk 5 t n l))) := by
  unfold BytesEnd
  rw [enc_5] at hlen ⊢
  have hle : Below w.heap.size w (w.alloc (.cells #[.int .i64 5, .string (str t), .int .i64 n, .slice ao l.length cp] 24)) := (Below.refl _ _).alloc (Nat.le_refl _) _
  have BAG0 := Lib.hid (hB.later hle).start
  have SP := Lib.hid (Spares.below hle)
  have P0 := Lib.hid (Blk4.new (w := w) (a := .int .i64 5) (b := .string (str t)) (c := .int .i64 n) (d := .slice ao l.length cp) rfl)
  have hts : (str t).size ≤ 1073741824 := by rw [str_size]; exact ht
  have HLEN := Lib.hid hlen
  clear hB hlen hle
  go_enter Tryd.func33, Tryd.ntmps33
  go_wp2_with (at_builtin; refine bagL_str rfl BAG0.out (.tmp 59) (.const (.string ⟨#[36, 45, 49, 13, 10]⟩)) rfl rfl ⟨#[36, 45, 49, 13, 10]⟩ [36, 45, 49, 13, 10] rfl rfl (by have := HLEN.out; simp at this ⊢; omega) ?_)
  intro v2 W2 hbag
  go_wp2
  go_ret
  exact ⟨_, rfl, by simpa using (hbag.from1 SP.out).forget⟩
set_option maxRecDepth 100000 in
set_option maxHeartbeats 3200000 in
theorem bytes_7 (d : Nat) (t : List UInt8) (ht : t.length ≤ 1073741824) (n : Int) (hn1 : -9223372036854775808 ≤ n) (hn2 : n ≤ 9223372036854775807) (l : List R) (ao : Option Addr) (cp : Nat) (hl : l.length ≤ 1073741824) (w0 : World) (v : Value) (bs : List UInt8) (w : World) (hB : Bag w0.heap.size w0 w w v bs true []) (hlen : bs.length + (Pl.encL d (.mk 7 t n l)).length ≤ 140737488355328) : Calls Tryd.prog 33 #[v, .agg #[.int .i64 7, .string (str t), .int .i64 n, .slice ao l.length cp]] w (BytesEnd w0.heap.size w0 w (bs ++ Pl.encL d (.mk 7 t n l))) := by
  unfold BytesEnd
  rw [enc_7] at hlen ⊢
  have hle : Below w.heap.size w (w.alloc (.cells #[.int .i64 7, .string (str t), .int .i64 n, .slice ao l.length cp] 24)) := (Below.refl _ _).alloc (Nat.le_refl _) _
  have BAG0 := Lib.hid (hB.later hle).start
  have SP := Lib.hid (Spares.below hle)
  have P0 := Lib.hid (Blk4.new (w := w) (a := .int .i64 7) (b := .string (str t)) (c := .int .i64 n) (d := .slice ao l.length cp) rfl)
  have hts : (str t).size ≤ 1073741824 := by rw [str_size]; exact ht
  have HLEN := Lib.hid hlen
  clear hB hlen hle
  go_enter Tryd.func33, Tryd.ntmps33
  go_wp2_with (at_builtin; refine bagL_str rfl BAG0.out (.tmp 63) (.const (.string ⟨#[42, 45, 49, 13, 10]⟩)) rfl rfl ⟨#[42, 45, 49, 13, 10]⟩ [42, 45, 49, 13, 10] rfl rfl (by have := HLEN.out; simp at this ⊢; omega) ?_)
  intro v2 W2 hbag
  go_wp2
  go_ret
  exact ⟨_, rfl, by simpa using (hbag.from1 SP.out).forget⟩
set_option maxRecDepth 100000 in
set_option maxHeartbeats 3200000 in
theorem bytes_4 (d : Nat) (t : List UInt8) (ht : t.length ≤ 1073741824) (n : Int) (hn1 : -9223372036854775808 ≤ n) (hn2 : n ≤ 9223372036854775807) (l : List R) (ao : Option Addr) (cp : Nat) (hl : l.length ≤ 1073741824) (w0 : World) (v : Value) (bs : List UInt8) (w : World) (hB : Bag w0.heap.size w0 w w v bs true []) (hlen : bs.length + (Pl.encL d (.mk 4 t n l)).length ≤ 140737488355328) : Calls Tryd.prog 33 #[v, .agg #[.int .i64 4, .string (str t), .int .i64 n, .slice ao l.length cp]] w (BytesEnd w0.heap.size w0 w (bs ++ Pl.encL d (.mk 4 t n l))) := by
  unfold BytesEnd
  rw [enc_4] at hlen ⊢
  have hle : Below w.heap.size w (w.alloc (.cells #[.int .i64 4, .string (str t), .int .i64 n, .slice ao l.length cp] 24)) := (Below.refl _ _).alloc (Nat.le_refl _) _
  have BAG0 := Lib.hid (hB.later hle).start
  have SP := Lib.hid (Spares.below hle)
  have P0 := Lib.hid (Blk4.new (w := w) (a := .int .i64 4) (b := .string (str t)) (c := .int .i64 n) (d := .slice ao l.length cp) rfl)
  have hts : (str t).size ≤ 1073741824 := by rw [str_size]; exact ht
  have HLEN := Lib.hid hlen
  clear hB hlen hle
  have hsz : Lib.itoa ((str t).size : Int) = Lib.itoa t.length := by rw [str_size]
  go_enter Tryd.func33, Tryd.ntmps33
  go_wp2_with fail
  have BAG := Lib.hid BAG0.out.drew
  refine wp_region_held_drew (S := (fun W => W.cell? ⟨w.heap.size, 1, none⟩ = some (.string (str t)))) (by kernel_rfl) ?_ (fun hHeld => ?_)
  · exact (BAG.out.box P0.out).cells.2.1
  refine wpAnyH_take (i := 0) (oi := (Go.Oper.mk (some 41) (Go.Op.move (Go.Operand.tmp 0)) 61 _ #[] none)) (v := ?_) rfl (by kernel_rfl) (by kernel_rfl) (by kernel_rfl) (fun _ _ _ h => h) (Or.inl ⟨by rfl, ?_⟩) hHeld ?_
  rotate_left
  · intro w hSw; (try dsimp only at hSw); go_simp; (try with_reducible rfl)
  simp only [Act.put, List.setIfInBounds_toArray, List.set_cons_zero, List.set_cons_succ]
  refine wpAnyH_take (i := 3) (oi := (Go.Oper.mk (some 44) (Go.Op.fieldAddr 24 (Go.Operand.tmp 3) 1) 0 _ #[] none)) (v := ?_) rfl (by kernel_rfl) (by kernel_rfl) (by kernel_rfl) (fun _ _ _ h => h) (Or.inl ⟨by rfl, ?_⟩) hHeld ?_
  rotate_left
  · intro w hSw; (try dsimp only at hSw); go_simp; (try with_reducible rfl)
  simp only [Act.put, List.setIfInBounds_toArray, List.set_cons_zero, List.set_cons_succ]
  refine wpAnyH_take (i := 4) (oi := (Go.Oper.mk (some 45) (Go.Op.load 9 (Go.Operand.tmp 44)) 9 _ #[Go.Edge.mk 3 Go.Ground.data] none)) (v := ?_) rfl (by kernel_rfl) (by kernel_rfl) (by kernel_rfl) (fun _ _ _ h => h) (Or.inl ⟨by rfl, ?_⟩) hHeld ?_
  rotate_left
  · intro w hSw; (try dsimp only at hSw); go_simp; (try with_reducible rfl)
  simp only [Act.put, List.setIfInBounds_toArray, List.set_cons_zero, List.set_cons_succ]
  refine wpAnyH_take (i := 5) (oi := (Go.Oper.mk (some 46) (Go.Op.call (Go.Call.mk (Go.Callee.builtin Go.Builtin.len) #[Go.Operand.tmp 45] #[9])) 3 _ #[Go.Edge.mk 4 Go.Ground.data] none)) (v := ?_) rfl (by kernel_rfl) (by kernel_rfl) (by kernel_rfl) (fun _ _ _ h => h) (Or.inl ⟨by rfl, ?_⟩) hHeld ?_
  rotate_left
  · intro w hSw; (try dsimp only at hSw); go_simp; (try with_reducible rfl)
  simp only [Act.put, List.setIfInBounds_toArray, List.set_cons_zero, List.set_cons_succ]
  refine wpAnyH_ready (rs := [1, 8]) (by kernel_rfl) (by simp) ?_
  refine (AllReadyH.cons (o := (Go.Oper.mk (some 42) (Go.Op.buildSlice 61 1 #[(0, Go.Operand.const (Go.Value.int Go.IntKind.u8 36))]) 61 _ #[] none)) rfl (fun K hK => ?_) (AllReadyH.cons (o := (Go.Oper.mk (some 49) (Go.Op.buildSlice 61 2 #[(0, Go.Operand.const (Go.Value.int Go.IntKind.u8 13)), (1, Go.Operand.const (Go.Value.int Go.IntKind.u8 10))]) 61 _ #[] none)) rfl (fun K hK => ?_) AllReadyH.nil))
  · skip
    go_simp
    have BAG := Lib.hid (BAG.out.build [36] #[.int .u8 36] rfl)
    refine hK.out _ _ ?_ (fun hHeld => ?_)
    · exact (BAG.out.box P0.out).cells.2.1
    clear hK K
    (try simp only [Act.put, List.setIfInBounds_toArray, List.set_cons_zero, List.set_cons_succ])
    refine wpAnyH_ready (rs := [2, 8]) (by kernel_rfl) (by simp) ?_
    refine (AllReadyH.cons (o := (Go.Oper.mk (some 43) (Go.Op.call (Go.Call.mk (Go.Callee.builtin Go.Builtin.append) #[Go.Operand.tmp 41, Go.Operand.tmp 42] #[61, 61])) 61 _ #[Go.Edge.mk 0 Go.Ground.data, Go.Edge.mk 1 Go.Ground.data] none)) rfl (fun K hK => ?_) (AllReadyH.cons (o := (Go.Oper.mk (some 49) (Go.Op.buildSlice 61 2 #[(0, Go.Operand.const (Go.Value.int Go.IntKind.u8 13)), (1, Go.Operand.const (Go.Value.int Go.IntKind.u8 10))]) 61 _ #[] none)) rfl (fun K hK => ?_) AllReadyH.nil))
    · skip
      (rw [if_pos (by rfl)]; refine bag_app BAG.out (.tmp 41) (.tmp 42) rfl rfl _ [36] _ rfl (by simp) (by have := HLEN.out; simp at this ⊢; omega) ?_; intro v1 W1 hbag; have BAG := Lib.hid hbag; clear hbag)
      refine hK.out _ _ ?_ (fun hHeld => ?_)
      · exact (BAG.out.box P0.out).cells.2.1
      clear hK K
      (try simp only [Act.put, List.setIfInBounds_toArray, List.set_cons_zero, List.set_cons_succ])
      refine wpAnyH_ready (rs := [6, 8]) (by kernel_rfl) (by simp) ?_
      refine (AllReadyH.cons (o := (Go.Oper.mk (some 47) (Go.Op.call (Go.Call.mk (Go.Callee.value (Go.Operand.func 29)) #[Go.Operand.tmp 46] #[3])) 9 _ #[Go.Edge.mk 5 Go.Ground.data, Go.Edge.mk 2 Go.Ground.chain] none)) rfl (fun K hK => ?_) (AllReadyH.cons (o := (Go.Oper.mk (some 49) (Go.Op.buildSlice 61 2 #[(0, Go.Operand.const (Go.Value.int Go.IntKind.u8 13)), (1, Go.Operand.const (Go.Value.int Go.IntKind.u8 10))]) 61 _ #[] none)) rfl (fun K hK => ?_) AllReadyH.nil))
      · skip
        go_simp
        (with_reducible refine (refPrint_any ((str t).size : Int) (by omega) (by omega) _).mono ?_); rintro e wx ⟨rfl, bx⟩; have BAG := Lib.hid (BAG.out.later bx); clear bx
        go_wp2_with fail
        refine hK.out _ _ ?_ (fun hHeld => ?_)
        · exact (BAG.out.box P0.out).cells.2.1
        clear hK K
        (try simp only [Act.put, List.setIfInBounds_toArray, List.set_cons_zero, List.set_cons_succ])
        refine wpAnyH_ready (rs := [7, 8]) (by kernel_rfl) (by simp) ?_
        refine (AllReadyH.cons (o := (Go.Oper.mk (some 48) (Go.Op.call (Go.Call.mk (Go.Callee.builtin Go.Builtin.append) #[Go.Operand.tmp 43, Go.Operand.tmp 47] #[61, 9])) 61 _ #[Go.Edge.mk 2 Go.Ground.data, Go.Edge.mk 6 Go.Ground.data, Go.Edge.mk 6 Go.Ground.chain] none)) rfl (fun K hK => ?_) (AllReadyH.cons (o := (Go.Oper.mk (some 49) (Go.Op.buildSlice 61 2 #[(0, Go.Operand.const (Go.Value.int Go.IntKind.u8 13)), (1, Go.Operand.const (Go.Value.int Go.IntKind.u8 10))]) 61 _ #[] none)) rfl (fun K hK => ?_) AllReadyH.nil))
        · skip
          (rw [if_pos (by rfl)]; refine bag_str BAG.out (.tmp 43) (.tmp 47) rfl rfl (str (Lib.itoa ((str t).size : Int))) (Lib.itoa t.length) (by first | rfl | simp [str] | (rw [str_size]; rfl)) rfl (by have := HLEN.out; simp at this ⊢; omega) ?_; intro v2 W2 hbag; have BAG := Lib.hid hbag; clear hbag)
          refine hK.out _ _ ?_ (fun hHeld => ?_)
          · exact (BAG.out.box P0.out).cells.2.1
          clear hK K
          (try simp only [Act.put, List.setIfInBounds_toArray, List.set_cons_zero, List.set_cons_succ])
          refine wpAnyH_ready (rs := [8]) (by kernel_rfl) (by simp) ?_
          refine (AllReadyH.cons (o := (Go.Oper.mk (some 49) (Go.Op.buildSlice 61 2 #[(0, Go.Operand.const (Go.Value.int Go.IntKind.u8 13)), (1, Go.Operand.const (Go.Value.int Go.IntKind.u8 10))]) 61 _ #[] none)) rfl (fun K hK => ?_) AllReadyH.nil)
          · skip
            go_simp
            have BAG := Lib.hid (BAG.out.build [13, 10] #[.int .u8 13, .int .u8 10] rfl)
            refine hK.out _ _ ?_ (fun hHeld => ?_)
            · exact (BAG.out.box P0.out).cells.2.1
            clear hK K
            (try simp only [Act.put, List.setIfInBounds_toArray, List.set_cons_zero, List.set_cons_succ])
            refine wpAnyH_ready (rs := [9]) (by kernel_rfl) (by simp) ?_
            refine (AllReadyH.cons (o := (Go.Oper.mk (some 50) (Go.Op.call (Go.Call.mk (Go.Callee.builtin Go.Builtin.append) #[Go.Operand.tmp 48, Go.Operand.tmp 49] #[61, 61])) 61 _ #[Go.Edge.mk 7 Go.Ground.data, Go.Edge.mk 8 Go.Ground.data, Go.Edge.mk 7 Go.Ground.chain] none)) rfl (fun K hK => ?_) AllReadyH.nil)
            · skip
              (rw [if_pos (by rfl)]; refine bag_last BAG.out (.tmp 48) (.tmp 49) rfl rfl _ [13, 10] _ rfl (by simp) (by have := HLEN.out; simp at this ⊢; omega) ?_; intro v3 W3 hbag; have BAG := Lib.hid hbag; clear hbag)
              refine hK.out _ _ ?_ (fun hHeld => ?_)
              · exact (BAG.out.box P0.out).cells.2.1
              clear hK K
              (try simp only [Act.put, List.setIfInBounds_toArray, List.set_cons_zero, List.set_cons_succ])
              refine wpAnyH_take (i := 10) (oi := (Go.Oper.mk (some 0) (Go.Op.assign (Go.Operand.tmp 50)) 61 _ #[Go.Edge.mk 9 Go.Ground.data, Go.Edge.mk 9 Go.Ground.chain, Go.Edge.mk 0 Go.Ground.phase, Go.Edge.mk 1 Go.Ground.phase, Go.Edge.mk 2 Go.Ground.phase, Go.Edge.mk 3 Go.Ground.phase, Go.Edge.mk 4 Go.Ground.phase, Go.Edge.mk 5 Go.Ground.phase, Go.Edge.mk 6 Go.Ground.phase, Go.Edge.mk 7 Go.Ground.phase, Go.Edge.mk 8 Go.Ground.phase, Go.Edge.mk 9 Go.Ground.phase] none)) (v := ?_) rfl (by kernel_rfl) (by kernel_rfl) (by kernel_rfl) (fun _ _ _ h => h) (Or.inl ⟨by rfl, ?_⟩) hHeld ?_
              rotate_left
              · intro w hSw; (try dsimp only at hSw); go_simp; (try with_reducible rfl)
              simp only [Act.put, List.setIfInBounds_toArray, List.set_cons_zero, List.set_cons_succ]
              refine wpAnyH_done (by kernel_rfl) ?_ _
              have BAG := Lib.hid BAG.out.forget
              obtain ⟨p0, p1, p2, p3⟩ := (BAG.out.box P0.out).cells
              go_wp2_with (at_builtin; refine bagL_str rfl BAG.out (.tmp 51) (.tmp 53) rfl rfl (str t) t rfl rfl (by have := HLEN.out; simp at this ⊢; omega) ?_)
              intro v4 W4 hbag
              have BAG := Lib.hid (hbag.build [13, 10] #[.int .u8 13, .int .u8 10] rfl)
              clear hbag p0 p1 p2 p3
              go_wp2_with (at_builtin; refine bagL_last rfl BAG.out (.tmp 54) (.tmp 55) rfl rfl _ [13, 10] _ rfl (by simp) (by have := HLEN.out; simp at this ⊢; omega) ?_)
              intro v5 W5 hbag
              go_wp2
              go_ret
              exact ⟨_, rfl, by simpa using hbag.from1 SP.out⟩
        · skip
          go_simp
          have BAG := Lib.hid (BAG.out.build [13, 10] #[.int .u8 13, .int .u8 10] rfl)
          refine hK.out _ _ ?_ (fun hHeld => ?_)
          · exact (BAG.out.box P0.out).cells.2.1
          clear hK K
          (try simp only [Act.put, List.setIfInBounds_toArray, List.set_cons_zero, List.set_cons_succ])
          refine wpAnyH_ready (rs := [7]) (by kernel_rfl) (by simp) ?_
          refine (AllReadyH.cons (o := (Go.Oper.mk (some 48) (Go.Op.call (Go.Call.mk (Go.Callee.builtin Go.Builtin.append) #[Go.Operand.tmp 43, Go.Operand.tmp 47] #[61, 9])) 61 _ #[Go.Edge.mk 2 Go.Ground.data, Go.Edge.mk 6 Go.Ground.data, Go.Edge.mk 6 Go.Ground.chain] none)) rfl (fun K hK => ?_) AllReadyH.nil)
          · skip
            (rw [if_pos (by rfl)]; refine bag_str BAG.out (.tmp 43) (.tmp 47) rfl rfl (str (Lib.itoa ((str t).size : Int))) (Lib.itoa t.length) (by first | rfl | simp [str] | (rw [str_size]; rfl)) rfl (by have := HLEN.out; simp at this ⊢; omega) ?_; intro v2 W2 hbag; have BAG := Lib.hid hbag; clear hbag)
            refine hK.out _ _ ?_ (fun hHeld => ?_)
            · exact (BAG.out.box P0.out).cells.2.1
            clear hK K
            (try simp only [Act.put, List.setIfInBounds_toArray, List.set_cons_zero, List.set_cons_succ])
            refine wpAnyH_ready (rs := [9]) (by kernel_rfl) (by simp) ?_
            refine (AllReadyH.cons (o := (Go.Oper.mk (some 50) (Go.Op.call (Go.Call.mk (Go.Callee.builtin Go.Builtin.append) #[Go.Operand.tmp 48, Go.Operand.tmp 49] #[61, 61])) 61 _ #[Go.Edge.mk 7 Go.Ground.data, Go.Edge.mk 8 Go.Ground.data, Go.Edge.mk 7 Go.Ground.chain] none)) rfl (fun K hK => ?_) AllReadyH.nil)
            · skip
              (rw [if_pos (by rfl)]; refine bag_last BAG.out (.tmp 48) (.tmp 49) rfl rfl _ [13, 10] _ rfl (by simp) (by have := HLEN.out; simp at this ⊢; omega) ?_; intro v3 W3 hbag; have BAG := Lib.hid hbag; clear hbag)
              refine hK.out _ _ ?_ (fun hHeld => ?_)
              · exact (BAG.out.box P0.out).cells.2.1
              clear hK K
              (try simp only [Act.put, List.setIfInBounds_toArray, List.set_cons_zero, List.set_cons_succ])
              refine wpAnyH_take (i := 10) (oi := (Go.Oper.mk (some 0) (Go.Op.assign (Go.Operand.tmp 50)) 61 _ #[Go.Edge.mk 9 Go.Ground.data, Go.Edge.mk 9 Go.Ground.chain, Go.Edge.mk 0 Go.Ground.phase, Go.Edge.mk 1 Go.Ground.phase, Go.Edge.mk 2 Go.Ground.phase, Go.Edge.mk 3 Go.Ground.phase, Go.Edge.mk 4 Go.Ground.phase, Go.Edge.mk 5 Go.Ground.phase, Go.Edge.mk 6 Go.Ground.phase, Go.Edge.mk 7 Go.Ground.phase, Go.Edge.mk 8 Go.Ground.phase, Go.Edge.mk 9 Go.Ground.phase] none)) (v := ?_) rfl (by kernel_rfl) (by kernel_rfl) (by kernel_rfl) (fun _ _ _ h => h) (Or.inl ⟨by rfl, ?_⟩) hHeld ?_
              rotate_left
              · intro w hSw; (try dsimp only at hSw); go_simp; (try with_reducible rfl)
              simp only [Act.put, List.setIfInBounds_toArray, List.set_cons_zero, List.set_cons_succ]
              refine wpAnyH_done (by kernel_rfl) ?_ _
              have BAG := Lib.hid BAG.out.forget
              obtain ⟨p0, p1, p2, p3⟩ := (BAG.out.box P0.out).cells
              go_wp2_with (at_builtin; refine bagL_str rfl BAG.out (.tmp 51) (.tmp 53) rfl rfl (str t) t rfl rfl (by have := HLEN.out; simp at this ⊢; omega) ?_)
              intro v4 W4 hbag
              have BAG := Lib.hid (hbag.build [13, 10] #[.int .u8 13, .int .u8 10] rfl)
              clear hbag p0 p1 p2 p3
              go_wp2_with (at_builtin; refine bagL_last rfl BAG.out (.tmp 54) (.tmp 55) rfl rfl _ [13, 10] _ rfl (by simp) (by have := HLEN.out; simp at this ⊢; omega) ?_)
              intro v5 W5 hbag
              go_wp2
              go_ret
              exact ⟨_, rfl, by simpa using hbag.from1 SP.out⟩
      · skip
        go_simp
        have BAG := Lib.hid (BAG.out.build [13, 10] #[.int .u8 13, .int .u8 10] rfl)
        refine hK.out _ _ ?_ (fun hHeld => ?_)
        · exact (BAG.out.box P0.out).cells.2.1
        clear hK K
        (try simp only [Act.put, List.setIfInBounds_toArray, List.set_cons_zero, List.set_cons_succ])
        refine wpAnyH_ready (rs := [6]) (by kernel_rfl) (by simp) ?_
        refine (AllReadyH.cons (o := (Go.Oper.mk (some 47) (Go.Op.call (Go.Call.mk (Go.Callee.value (Go.Operand.func 29)) #[Go.Operand.tmp 46] #[3])) 9 _ #[Go.Edge.mk 5 Go.Ground.data, Go.Edge.mk 2 Go.Ground.chain] none)) rfl (fun K hK => ?_) AllReadyH.nil)
        · skip
          go_simp
          (with_reducible refine (refPrint_any ((str t).size : Int) (by omega) (by omega) _).mono ?_); rintro e wx ⟨rfl, bx⟩; have BAG := Lib.hid (BAG.out.later bx); clear bx
          go_wp2_with fail
          refine hK.out _ _ ?_ (fun hHeld => ?_)
          · exact (BAG.out.box P0.out).cells.2.1
          clear hK K
          (try simp only [Act.put, List.setIfInBounds_toArray, List.set_cons_zero, List.set_cons_succ])
          refine wpAnyH_ready (rs := [7]) (by kernel_rfl) (by simp) ?_
          refine (AllReadyH.cons (o := (Go.Oper.mk (some 48) (Go.Op.call (Go.Call.mk (Go.Callee.builtin Go.Builtin.append) #[Go.Operand.tmp 43, Go.Operand.tmp 47] #[61, 9])) 61 _ #[Go.Edge.mk 2 Go.Ground.data, Go.Edge.mk 6 Go.Ground.data, Go.Edge.mk 6 Go.Ground.chain] none)) rfl (fun K hK => ?_) AllReadyH.nil)
          · skip
            (rw [if_pos (by rfl)]; refine bag_str BAG.out (.tmp 43) (.tmp 47) rfl rfl (str (Lib.itoa ((str t).size : Int))) (Lib.itoa t.length) (by first | rfl | simp [str] | (rw [str_size]; rfl)) rfl (by have := HLEN.out; simp at this ⊢; omega) ?_; intro v2 W2 hbag; have BAG := Lib.hid hbag; clear hbag)
            refine hK.out _ _ ?_ (fun hHeld => ?_)
            · exact (BAG.out.box P0.out).cells.2.1
            clear hK K
            (try simp only [Act.put, List.setIfInBounds_toArray, List.set_cons_zero, List.set_cons_succ])
            refine wpAnyH_ready (rs := [9]) (by kernel_rfl) (by simp) ?_
            refine (AllReadyH.cons (o := (Go.Oper.mk (some 50) (Go.Op.call (Go.Call.mk (Go.Callee.builtin Go.Builtin.append) #[Go.Operand.tmp 48, Go.Operand.tmp 49] #[61, 61])) 61 _ #[Go.Edge.mk 7 Go.Ground.data, Go.Edge.mk 8 Go.Ground.data, Go.Edge.mk 7 Go.Ground.chain] none)) rfl (fun K hK => ?_) AllReadyH.nil)
            · skip
              (rw [if_pos (by rfl)]; refine bag_last BAG.out (.tmp 48) (.tmp 49) rfl rfl _ [13, 10] _ rfl (by simp) (by have := HLEN.out; simp at this ⊢; omega) ?_; intro v3 W3 hbag; have BAG := Lib.hid hbag; clear hbag)
              refine hK.out _ _ ?_ (fun hHeld => ?_)
              · exact (BAG.out.box P0.out).cells.2.1
              clear hK K
              (try simp only [Act.put, List.setIfInBounds_toArray, List.set_cons_zero, List.set_cons_succ])
              refine wpAnyH_take (i := 10) (oi := (Go.Oper.mk (some 0) (Go.Op.assign (Go.Operand.tmp 50)) 61 _ #[Go.Edge.mk 9 Go.Ground.data, Go.Edge.mk 9 Go.Ground.chain, Go.Edge.mk 0 Go.Ground.phase, Go.Edge.mk 1 Go.Ground.phase, Go.Edge.mk 2 Go.Ground.phase, Go.Edge.mk 3 Go.Ground.phase, Go.Edge.mk 4 Go.Ground.phase, Go.Edge.mk 5 Go.Ground.phase, Go.Edge.mk 6 Go.Ground.phase, Go.Edge.mk 7 Go.Ground.phase, Go.Edge.mk 8 Go.Ground.phase, Go.Edge.mk 9 Go.Ground.phase] none)) (v := ?_) rfl (by kernel_rfl) (by kernel_rfl) (by kernel_rfl) (fun _ _ _ h => h) (Or.inl ⟨by rfl, ?_⟩) hHeld ?_
              rotate_left
              · intro w hSw; (try dsimp only at hSw); go_simp; (try with_reducible rfl)
              simp only [Act.put, List.setIfInBounds_toArray, List.set_cons_zero, List.set_cons_succ]
              refine wpAnyH_done (by kernel_rfl) ?_ _
              have BAG := Lib.hid BAG.out.forget
              obtain ⟨p0, p1, p2, p3⟩ := (BAG.out.box P0.out).cells
              go_wp2_with (at_builtin; refine bagL_str rfl BAG.out (.tmp 51) (.tmp 53) rfl rfl (str t) t rfl rfl (by have := HLEN.out; simp at this ⊢; omega) ?_)
              intro v4 W4 hbag
              have BAG := Lib.hid (hbag.build [13, 10] #[.int .u8 13, .int .u8 10] rfl)
              clear hbag p0 p1 p2 p3
              go_wp2_with (at_builtin; refine bagL_last rfl BAG.out (.tmp 54) (.tmp 55) rfl rfl _ [13, 10] _ rfl (by simp) (by have := HLEN.out; simp at this ⊢; omega) ?_)
              intro v5 W5 hbag
              go_wp2
              go_ret
              exact ⟨_, rfl, by simpa using hbag.from1 SP.out⟩
    · skip
      go_simp
      have BAG := Lib.hid (BAG.out.build [13, 10] #[.int .u8 13, .int .u8 10] rfl)
      refine hK.out _ _ ?_ (fun hHeld => ?_)
      · exact (BAG.out.box P0.out).cells.2.1
      clear hK K
      (try simp only [Act.put, List.setIfInBounds_toArray, List.set_cons_zero, List.set_cons_succ])
      refine wpAnyH_ready (rs := [2]) (by kernel_rfl) (by simp) ?_
      refine (AllReadyH.cons (o := (Go.Oper.mk (some 43) (Go.Op.call (Go.Call.mk (Go.Callee.builtin Go.Builtin.append) #[Go.Operand.tmp 41, Go.Operand.tmp 42] #[61, 61])) 61 _ #[Go.Edge.mk 0 Go.Ground.data, Go.Edge.mk 1 Go.Ground.data] none)) rfl (fun K hK => ?_) AllReadyH.nil)
      · skip
        (rw [if_pos (by rfl)]; refine bag_app BAG.out (.tmp 41) (.tmp 42) rfl rfl _ [36] _ rfl (by simp) (by have := HLEN.out; simp at this ⊢; omega) ?_; intro v1 W1 hbag; have BAG := Lib.hid hbag; clear hbag)
        refine hK.out _ _ ?_ (fun hHeld => ?_)
        · exact (BAG.out.box P0.out).cells.2.1
        clear hK K
        (try simp only [Act.put, List.setIfInBounds_toArray, List.set_cons_zero, List.set_cons_succ])
        refine wpAnyH_ready (rs := [6]) (by kernel_rfl) (by simp) ?_
        refine (AllReadyH.cons (o := (Go.Oper.mk (some 47) (Go.Op.call (Go.Call.mk (Go.Callee.value (Go.Operand.func 29)) #[Go.Operand.tmp 46] #[3])) 9 _ #[Go.Edge.mk 5 Go.Ground.data, Go.Edge.mk 2 Go.Ground.chain] none)) rfl (fun K hK => ?_) AllReadyH.nil)
        · skip
          go_simp
          (with_reducible refine (refPrint_any ((str t).size : Int) (by omega) (by omega) _).mono ?_); rintro e wx ⟨rfl, bx⟩; have BAG := Lib.hid (BAG.out.later bx); clear bx
          go_wp2_with fail
          refine hK.out _ _ ?_ (fun hHeld => ?_)
          · exact (BAG.out.box P0.out).cells.2.1
          clear hK K
          (try simp only [Act.put, List.setIfInBounds_toArray, List.set_cons_zero, List.set_cons_succ])
          refine wpAnyH_ready (rs := [7]) (by kernel_rfl) (by simp) ?_
          refine (AllReadyH.cons (o := (Go.Oper.mk (some 48) (Go.Op.call (Go.Call.mk (Go.Callee.builtin Go.Builtin.append) #[Go.Operand.tmp 43, Go.Operand.tmp 47] #[61, 9])) 61 _ #[Go.Edge.mk 2 Go.Ground.data, Go.Edge.mk 6 Go.Ground.data, Go.Edge.mk 6 Go.Ground.chain] none)) rfl (fun K hK => ?_) AllReadyH.nil)
          · skip
            (rw [if_pos (by rfl)]; refine bag_str BAG.out (.tmp 43) (.tmp 47) rfl rfl (str (Lib.itoa ((str t).size : Int))) (Lib.itoa t.length) (by first | rfl | simp [str] | (rw [str_size]; rfl)) rfl (by have := HLEN.out; simp at this ⊢; omega) ?_; intro v2 W2 hbag; have BAG := Lib.hid hbag; clear hbag)
            refine hK.out _ _ ?_ (fun hHeld => ?_)
            · exact (BAG.out.box P0.out).cells.2.1
            clear hK K
            (try simp only [Act.put, List.setIfInBounds_toArray, List.set_cons_zero, List.set_cons_succ])
            refine wpAnyH_ready (rs := [9]) (by kernel_rfl) (by simp) ?_
            refine (AllReadyH.cons (o := (Go.Oper.mk (some 50) (Go.Op.call (Go.Call.mk (Go.Callee.builtin Go.Builtin.append) #[Go.Operand.tmp 48, Go.Operand.tmp 49] #[61, 61])) 61 _ #[Go.Edge.mk 7 Go.Ground.data, Go.Edge.mk 8 Go.Ground.data, Go.Edge.mk 7 Go.Ground.chain] none)) rfl (fun K hK => ?_) AllReadyH.nil)
            · skip
              (rw [if_pos (by rfl)]; refine bag_last BAG.out (.tmp 48) (.tmp 49) rfl rfl _ [13, 10] _ rfl (by simp) (by have := HLEN.out; simp at this ⊢; omega) ?_; intro v3 W3 hbag; have BAG := Lib.hid hbag; clear hbag)
              refine hK.out _ _ ?_ (fun hHeld => ?_)
              · exact (BAG.out.box P0.out).cells.2.1
              clear hK K
              (try simp only [Act.put, List.setIfInBounds_toArray, List.set_cons_zero, List.set_cons_succ])
              refine wpAnyH_take (i := 10) (oi := (Go.Oper.mk (some 0) (Go.Op.assign (Go.Operand.tmp 50)) 61 _ #[Go.Edge.mk 9 Go.Ground.data, Go.Edge.mk 9 Go.Ground.chain, Go.Edge.mk 0 Go.Ground.phase, Go.Edge.mk 1 Go.Ground.phase, Go.Edge.mk 2 Go.Ground.phase, Go.Edge.mk 3 Go.Ground.phase, Go.Edge.mk 4 Go.Ground.phase, Go.Edge.mk 5 Go.Ground.phase, Go.Edge.mk 6 Go.Ground.phase, Go.Edge.mk 7 Go.Ground.phase, Go.Edge.mk 8 Go.Ground.phase, Go.Edge.mk 9 Go.Ground.phase] none)) (v := ?_) rfl (by kernel_rfl) (by kernel_rfl) (by kernel_rfl) (fun _ _ _ h => h) (Or.inl ⟨by rfl, ?_⟩) hHeld ?_
              rotate_left
              · intro w hSw; (try dsimp only at hSw); go_simp; (try with_reducible rfl)
              simp only [Act.put, List.setIfInBounds_toArray, List.set_cons_zero, List.set_cons_succ]
              refine wpAnyH_done (by kernel_rfl) ?_ _
              have BAG := Lib.hid BAG.out.forget
              obtain ⟨p0, p1, p2, p3⟩ := (BAG.out.box P0.out).cells
              go_wp2_with (at_builtin; refine bagL_str rfl BAG.out (.tmp 51) (.tmp 53) rfl rfl (str t) t rfl rfl (by have := HLEN.out; simp at this ⊢; omega) ?_)
              intro v4 W4 hbag
              have BAG := Lib.hid (hbag.build [13, 10] #[.int .u8 13, .int .u8 10] rfl)
              clear hbag p0 p1 p2 p3
              go_wp2_with (at_builtin; refine bagL_last rfl BAG.out (.tmp 54) (.tmp 55) rfl rfl _ [13, 10] _ rfl (by simp) (by have := HLEN.out; simp at this ⊢; omega) ?_)
              intro v5 W5 hbag
              go_wp2
              go_ret
              exact ⟨_, rfl, by simpa using hbag.from1 SP.out⟩
  · skip
    go_simp
    have BAG := Lib.hid (BAG.out.build [13, 10] #[.int .u8 13, .int .u8 10] rfl)
    refine hK.out _ _ ?_ (fun hHeld => ?_)
    · exact (BAG.out.box P0.out).cells.2.1
    clear hK K
    (try simp only [Act.put, List.setIfInBounds_toArray, List.set_cons_zero, List.set_cons_succ])
    refine wpAnyH_ready (rs := [1]) (by kernel_rfl) (by simp) ?_
    refine (AllReadyH.cons (o := (Go.Oper.mk (some 42) (Go.Op.buildSlice 61 1 #[(0, Go.Operand.const (Go.Value.int Go.IntKind.u8 36))]) 61 _ #[] none)) rfl (fun K hK => ?_) AllReadyH.nil)
    · skip
      go_simp
      have BAG := Lib.hid (BAG.out.build [36] #[.int .u8 36] rfl)
      refine hK.out _ _ ?_ (fun hHeld => ?_)
      · exact (BAG.out.box P0.out).cells.2.1
      clear hK K
      (try simp only [Act.put, List.setIfInBounds_toArray, List.set_cons_zero, List.set_cons_succ])
      refine wpAnyH_ready (rs := [2]) (by kernel_rfl) (by simp) ?_
      refine (AllReadyH.cons (o := (Go.Oper.mk (some 43) (Go.Op.call (Go.Call.mk (Go.Callee.builtin Go.Builtin.append) #[Go.Operand.tmp 41, Go.Operand.tmp 42] #[61, 61])) 61 _ #[Go.Edge.mk 0 Go.Ground.data, Go.Edge.mk 1 Go.Ground.data] none)) rfl (fun K hK => ?_) AllReadyH.nil)
      · skip
        (rw [if_pos (by rfl)]; refine bag_app BAG.out (.tmp 41) (.tmp 42) rfl rfl _ [36] _ rfl (by simp) (by have := HLEN.out; simp at this ⊢; omega) ?_; intro v1 W1 hbag; have BAG := Lib.hid hbag; clear hbag)
        refine hK.out _ _ ?_ (fun hHeld => ?_)
        · exact (BAG.out.box P0.out).cells.2.1
        clear hK K
        (try simp only [Act.put, List.setIfInBounds_toArray, List.set_cons_zero, List.set_cons_succ])
        refine wpAnyH_ready (rs := [6]) (by kernel_rfl) (by simp) ?_
        refine (AllReadyH.cons (o := (Go.Oper.mk (some 47) (Go.Op.call (Go.Call.mk (Go.Callee.value (Go.Operand.func 29)) #[Go.Operand.tmp 46] #[3])) 9 _ #[Go.Edge.mk 5 Go.Ground.data, Go.Edge.mk 2 Go.Ground.chain] none)) rfl (fun K hK => ?_) AllReadyH.nil)
        · skip
          go_simp
          (with_reducible refine (refPrint_any ((str t).size : Int) (by omega) (by omega) _).mono ?_); rintro e wx ⟨rfl, bx⟩; have BAG := Lib.hid (BAG.out.later bx); clear bx
          go_wp2_with fail
          refine hK.out _ _ ?_ (fun hHeld => ?_)
          · exact (BAG.out.box P0.out).cells.2.1
          clear hK K
          (try simp only [Act.put, List.setIfInBounds_toArray, List.set_cons_zero, List.set_cons_succ])
          refine wpAnyH_ready (rs := [7]) (by kernel_rfl) (by simp) ?_
          refine (AllReadyH.cons (o := (Go.Oper.mk (some 48) (Go.Op.call (Go.Call.mk (Go.Callee.builtin Go.Builtin.append) #[Go.Operand.tmp 43, Go.Operand.tmp 47] #[61, 9])) 61 _ #[Go.Edge.mk 2 Go.Ground.data, Go.Edge.mk 6 Go.Ground.data, Go.Edge.mk 6 Go.Ground.chain] none)) rfl (fun K hK => ?_) AllReadyH.nil)
          · skip
            (rw [if_pos (by rfl)]; refine bag_str BAG.out (.tmp 43) (.tmp 47) rfl rfl (str (Lib.itoa ((str t).size : Int))) (Lib.itoa t.length) (by first | rfl | simp [str] | (rw [str_size]; rfl)) rfl (by have := HLEN.out; simp at this ⊢; omega) ?_; intro v2 W2 hbag; have BAG := Lib.hid hbag; clear hbag)
            refine hK.out _ _ ?_ (fun hHeld => ?_)
            · exact (BAG.out.box P0.out).cells.2.1
            clear hK K
            (try simp only [Act.put, List.setIfInBounds_toArray, List.set_cons_zero, List.set_cons_succ])
            refine wpAnyH_ready (rs := [9]) (by kernel_rfl) (by simp) ?_
            refine (AllReadyH.cons (o := (Go.Oper.mk (some 50) (Go.Op.call (Go.Call.mk (Go.Callee.builtin Go.Builtin.append) #[Go.Operand.tmp 48, Go.Operand.tmp 49] #[61, 61])) 61 _ #[Go.Edge.mk 7 Go.Ground.data, Go.Edge.mk 8 Go.Ground.data, Go.Edge.mk 7 Go.Ground.chain] none)) rfl (fun K hK => ?_) AllReadyH.nil)
            · skip
              (rw [if_pos (by rfl)]; refine bag_last BAG.out (.tmp 48) (.tmp 49) rfl rfl _ [13, 10] _ rfl (by simp) (by have := HLEN.out; simp at this ⊢; omega) ?_; intro v3 W3 hbag; have BAG := Lib.hid hbag; clear hbag)
              refine hK.out _ _ ?_ (fun hHeld => ?_)
              · exact (BAG.out.box P0.out).cells.2.1
              clear hK K
              (try simp only [Act.put, List.setIfInBounds_toArray, List.set_cons_zero, List.set_cons_succ])
              refine wpAnyH_take (i := 10) (oi := (Go.Oper.mk (some 0) (Go.Op.assign (Go.Operand.tmp 50)) 61 _ #[Go.Edge.mk 9 Go.Ground.data, Go.Edge.mk 9 Go.Ground.chain, Go.Edge.mk 0 Go.Ground.phase, Go.Edge.mk 1 Go.Ground.phase, Go.Edge.mk 2 Go.Ground.phase, Go.Edge.mk 3 Go.Ground.phase, Go.Edge.mk 4 Go.Ground.phase, Go.Edge.mk 5 Go.Ground.phase, Go.Edge.mk 6 Go.Ground.phase, Go.Edge.mk 7 Go.Ground.phase, Go.Edge.mk 8 Go.Ground.phase, Go.Edge.mk 9 Go.Ground.phase] none)) (v := ?_) rfl (by kernel_rfl) (by kernel_rfl) (by kernel_rfl) (fun _ _ _ h => h) (Or.inl ⟨by rfl, ?_⟩) hHeld ?_
              rotate_left
              · intro w hSw; (try dsimp only at hSw); go_simp; (try with_reducible rfl)
              simp only [Act.put, List.setIfInBounds_toArray, List.set_cons_zero, List.set_cons_succ]
              refine wpAnyH_done (by kernel_rfl) ?_ _
              have BAG := Lib.hid BAG.out.forget
              obtain ⟨p0, p1, p2, p3⟩ := (BAG.out.box P0.out).cells
              go_wp2_with (at_builtin; refine bagL_str rfl BAG.out (.tmp 51) (.tmp 53) rfl rfl (str t) t rfl rfl (by have := HLEN.out; simp at this ⊢; omega) ?_)
              intro v4 W4 hbag
              have BAG := Lib.hid (hbag.build [13, 10] #[.int .u8 13, .int .u8 10] rfl)
              clear hbag p0 p1 p2 p3
              go_wp2_with (at_builtin; refine bagL_last rfl BAG.out (.tmp 54) (.tmp 55) rfl rfl _ [13, 10] _ rfl (by simp) (by have := HLEN.out; simp at this ⊢; omega) ?_)
              intro v5 W5 hbag
              go_wp2
              go_ret
              exact ⟨_, rfl, by simpa using hbag.from1 SP.out⟩
/-- Bytes, of a reply that may be with so many arrays left. -/
def BytesOk (d : Nat) : Prop := ∀ (r : R) (lv : Value) (G : Nat → Prop) (w0 : World), OkR r → LIs G w0 lv r.l → Pl.mayL d r = true → ∀ (v : Value) (bs : List UInt8) (w : World), Bag w0.heap.size w0 w w v bs true [] → bs.length + (Pl.encL d r).length ≤ 140737488355328 → Calls Tryd.prog 33 #[v, rv r lv] w (BytesEnd w0.heap.size w0 w (bs ++ Pl.encL d r))
set_option maxRecDepth 100000 in
set_option maxHeartbeats 3200000 in
theorem bytes_6 (d : Nat) (ih : BytesOk d) (t : List UInt8) (ht : t.length ≤ 1073741824) (n : Int) (l : List R) (lv : Value) (G : Nat → Prop) (hl : l.length ≤ 1073741824) (w0 : World) (hL : LIs G w0 lv l) (hm : l.all (Pl.mayL d) = true) (v : Value) (bs : List UInt8) (w : World) (hB : Bag w0.heap.size w0 w w v bs true [])
    (hlen : bs.length + (Pl.encL (d + 1) (.mk 6 t n l)).length ≤ 140737488355328) : Calls Tryd.prog 33 #[v, .agg #[.int .i64 6, .string (str t), .int .i64 n, lv]] w (BytesEnd w0.heap.size w0 w (bs ++ Pl.encL (d + 1) (.mk 6 t n l))) := by
  unfold BytesEnd
  rw [enc_6] at hlen ⊢
  obtain ⟨ao, cp, rfl⟩ := hL.shape
  have hle : Below w.heap.size w (w.alloc (.cells #[.int .i64 6, .string (str t), .int .i64 n, .slice ao l.length cp] 24)) := (Below.refl _ _).alloc (Nat.le_refl _) _
  have BAG0 := Lib.hid (hB.later hle).start
  have SP := Lib.hid (Spares.below hle)
  have P0 := Lib.hid (Blk4.new (w := w) (a := .int .i64 6) (b := .string (str t)) (c := .int .i64 n) (d := .slice ao l.length cp) rfl)
  have HL := Lib.hid hL
  have HM := Lib.hid hm
  have IH := Lib.hid ih
  have HLEN := Lib.hid hlen
  have HT := Lib.hid (show ∀ j r, l[j]? = some r → (bs ++ (42 :: (Lib.itoa l.length ++ [13, 10])) ++ (l.take j).flatMap (Pl.encL d)).length + (Pl.encL d r).length ≤ 140737488355328 from fun j r hj => by
    have := flat_part (Pl.encL d) hj
    simp only [List.length_append, List.length_cons, List.length_nil] at hlen ⊢
    omega)
  clear hB hlen hle hL hm ih
  go_enter Tryd.func33, Tryd.ntmps33
  go_wp2_with fail
  have BAG := Lib.hid BAG0.out.drew
  refine wp_region_held_drew (S := (fun W => W.cell? ⟨w.heap.size, 3, none⟩ = some (.slice ao l.length cp))) (by kernel_rfl) ?_ (fun hHeld => ?_)
  · exact (BAG.out.box P0.out).cells.2.2.2
  refine wpAnyH_take (i := 0) (oi := (Go.Oper.mk (some 65) (Go.Op.move (Go.Operand.tmp 0)) 61 _ #[] none)) (v := ?_) rfl (by kernel_rfl) (by kernel_rfl) (by kernel_rfl) (fun _ _ _ h => h) (Or.inl ⟨by rfl, ?_⟩) hHeld ?_
  rotate_left
  · intro w hSw; (try dsimp only at hSw); go_simp; (try with_reducible rfl)
  simp only [Act.put, List.setIfInBounds_toArray, List.set_cons_zero, List.set_cons_succ]
  refine wpAnyH_take (i := 3) (oi := (Go.Oper.mk (some 68) (Go.Op.fieldAddr 24 (Go.Operand.tmp 3) 3) 0 _ #[] none)) (v := ?_) rfl (by kernel_rfl) (by kernel_rfl) (by kernel_rfl) (fun _ _ _ h => h) (Or.inl ⟨by rfl, ?_⟩) hHeld ?_
  rotate_left
  · intro w hSw; (try dsimp only at hSw); go_simp; (try with_reducible rfl)
  simp only [Act.put, List.setIfInBounds_toArray, List.set_cons_zero, List.set_cons_succ]
  refine wpAnyH_take (i := 4) (oi := (Go.Oper.mk (some 69) (Go.Op.load 22 (Go.Operand.tmp 68)) 22 _ #[Go.Edge.mk 3 Go.Ground.data] none)) (v := ?_) rfl (by kernel_rfl) (by kernel_rfl) (by kernel_rfl) (fun _ _ _ h => h) (Or.inl ⟨by rfl, ?_⟩) hHeld ?_
  rotate_left
  · intro w hSw; (try dsimp only at hSw); go_simp; (try with_reducible rfl)
  simp only [Act.put, List.setIfInBounds_toArray, List.set_cons_zero, List.set_cons_succ]
  refine wpAnyH_take (i := 5) (oi := (Go.Oper.mk (some 70) (Go.Op.call (Go.Call.mk (Go.Callee.builtin Go.Builtin.len) #[Go.Operand.tmp 69] #[22])) 3 _ #[Go.Edge.mk 4 Go.Ground.data] none)) (v := ?_) rfl (by kernel_rfl) (by kernel_rfl) (by kernel_rfl) (fun _ _ _ h => h) (Or.inl ⟨by rfl, ?_⟩) hHeld ?_
  rotate_left
  · intro w hSw; (try dsimp only at hSw); go_simp; (try with_reducible rfl)
  simp only [Act.put, List.setIfInBounds_toArray, List.set_cons_zero, List.set_cons_succ]
  refine wpAnyH_ready (rs := [1, 8]) (by kernel_rfl) (by simp) ?_
  refine (AllReadyH.cons (o := (Go.Oper.mk (some 66) (Go.Op.buildSlice 61 1 #[(0, Go.Operand.const (Go.Value.int Go.IntKind.u8 42))]) 61 _ #[] none)) rfl (fun K hK => ?_) (AllReadyH.cons (o := (Go.Oper.mk (some 73) (Go.Op.buildSlice 61 2 #[(0, Go.Operand.const (Go.Value.int Go.IntKind.u8 13)), (1, Go.Operand.const (Go.Value.int Go.IntKind.u8 10))]) 61 _ #[] none)) rfl (fun K hK => ?_) AllReadyH.nil))
  · skip
    go_simp
    have BAG := Lib.hid (BAG.out.build [42] #[.int .u8 42] rfl)
    refine hK.out _ _ ?_ (fun hHeld => ?_)
    · exact (BAG.out.box P0.out).cells.2.2.2
    clear hK K
    (try simp only [Act.put, List.setIfInBounds_toArray, List.set_cons_zero, List.set_cons_succ])
    refine wpAnyH_ready (rs := [2, 8]) (by kernel_rfl) (by simp) ?_
    refine (AllReadyH.cons (o := (Go.Oper.mk (some 67) (Go.Op.call (Go.Call.mk (Go.Callee.builtin Go.Builtin.append) #[Go.Operand.tmp 65, Go.Operand.tmp 66] #[61, 61])) 61 _ #[Go.Edge.mk 0 Go.Ground.data, Go.Edge.mk 1 Go.Ground.data] none)) rfl (fun K hK => ?_) (AllReadyH.cons (o := (Go.Oper.mk (some 73) (Go.Op.buildSlice 61 2 #[(0, Go.Operand.const (Go.Value.int Go.IntKind.u8 13)), (1, Go.Operand.const (Go.Value.int Go.IntKind.u8 10))]) 61 _ #[] none)) rfl (fun K hK => ?_) AllReadyH.nil))
    · skip
      (rw [if_pos (by rfl)]; refine bag_app BAG.out (.tmp 65) (.tmp 66) rfl rfl _ [42] _ rfl (by simp) (by have := HLEN.out; simp at this ⊢; omega) ?_; intro v1 W1 hbag; have BAG := Lib.hid hbag; clear hbag)
      refine hK.out _ _ ?_ (fun hHeld => ?_)
      · exact (BAG.out.box P0.out).cells.2.2.2
      clear hK K
      (try simp only [Act.put, List.setIfInBounds_toArray, List.set_cons_zero, List.set_cons_succ])
      refine wpAnyH_ready (rs := [6, 8]) (by kernel_rfl) (by simp) ?_
      refine (AllReadyH.cons (o := (Go.Oper.mk (some 71) (Go.Op.call (Go.Call.mk (Go.Callee.value (Go.Operand.func 29)) #[Go.Operand.tmp 70] #[3])) 9 _ #[Go.Edge.mk 5 Go.Ground.data, Go.Edge.mk 2 Go.Ground.chain] none)) rfl (fun K hK => ?_) (AllReadyH.cons (o := (Go.Oper.mk (some 73) (Go.Op.buildSlice 61 2 #[(0, Go.Operand.const (Go.Value.int Go.IntKind.u8 13)), (1, Go.Operand.const (Go.Value.int Go.IntKind.u8 10))]) 61 _ #[] none)) rfl (fun K hK => ?_) AllReadyH.nil))
      · skip
        go_simp
        (with_reducible refine (refPrint_any l.length (by omega) (by omega) _).mono ?_); rintro e wx ⟨rfl, bx⟩; have BAG := Lib.hid (BAG.out.later bx); clear bx
        go_wp2_with fail
        refine hK.out _ _ ?_ (fun hHeld => ?_)
        · exact (BAG.out.box P0.out).cells.2.2.2
        clear hK K
        (try simp only [Act.put, List.setIfInBounds_toArray, List.set_cons_zero, List.set_cons_succ])
        refine wpAnyH_ready (rs := [7, 8]) (by kernel_rfl) (by simp) ?_
        refine (AllReadyH.cons (o := (Go.Oper.mk (some 72) (Go.Op.call (Go.Call.mk (Go.Callee.builtin Go.Builtin.append) #[Go.Operand.tmp 67, Go.Operand.tmp 71] #[61, 9])) 61 _ #[Go.Edge.mk 2 Go.Ground.data, Go.Edge.mk 6 Go.Ground.data, Go.Edge.mk 6 Go.Ground.chain] none)) rfl (fun K hK => ?_) (AllReadyH.cons (o := (Go.Oper.mk (some 73) (Go.Op.buildSlice 61 2 #[(0, Go.Operand.const (Go.Value.int Go.IntKind.u8 13)), (1, Go.Operand.const (Go.Value.int Go.IntKind.u8 10))]) 61 _ #[] none)) rfl (fun K hK => ?_) AllReadyH.nil))
        · skip
          (rw [if_pos (by rfl)]; refine bag_str BAG.out (.tmp 67) (.tmp 71) rfl rfl (str (Lib.itoa l.length)) (Lib.itoa l.length) (by first | rfl | simp [str] | (rw [str_size]; rfl)) rfl (by have := HLEN.out; simp at this ⊢; omega) ?_; intro v2 W2 hbag; have BAG := Lib.hid hbag; clear hbag)
          refine hK.out _ _ ?_ (fun hHeld => ?_)
          · exact (BAG.out.box P0.out).cells.2.2.2
          clear hK K
          (try simp only [Act.put, List.setIfInBounds_toArray, List.set_cons_zero, List.set_cons_succ])
          refine wpAnyH_ready (rs := [8]) (by kernel_rfl) (by simp) ?_
          refine (AllReadyH.cons (o := (Go.Oper.mk (some 73) (Go.Op.buildSlice 61 2 #[(0, Go.Operand.const (Go.Value.int Go.IntKind.u8 13)), (1, Go.Operand.const (Go.Value.int Go.IntKind.u8 10))]) 61 _ #[] none)) rfl (fun K hK => ?_) AllReadyH.nil)
          · skip
            go_simp
            have BAG := Lib.hid (BAG.out.build [13, 10] #[.int .u8 13, .int .u8 10] rfl)
            refine hK.out _ _ ?_ (fun hHeld => ?_)
            · exact (BAG.out.box P0.out).cells.2.2.2
            clear hK K
            (try simp only [Act.put, List.setIfInBounds_toArray, List.set_cons_zero, List.set_cons_succ])
            refine wpAnyH_ready (rs := [9]) (by kernel_rfl) (by simp) ?_
            refine (AllReadyH.cons (o := (Go.Oper.mk (some 74) (Go.Op.call (Go.Call.mk (Go.Callee.builtin Go.Builtin.append) #[Go.Operand.tmp 72, Go.Operand.tmp 73] #[61, 61])) 61 _ #[Go.Edge.mk 7 Go.Ground.data, Go.Edge.mk 8 Go.Ground.data, Go.Edge.mk 7 Go.Ground.chain] none)) rfl (fun K hK => ?_) AllReadyH.nil)
            · skip
              (rw [if_pos (by rfl)]; refine bag_last BAG.out (.tmp 72) (.tmp 73) rfl rfl _ [13, 10] _ rfl (by simp) (by have := HLEN.out; simp at this ⊢; omega) ?_; intro v3 W3 hbag; have BAG := Lib.hid hbag; clear hbag)
              refine hK.out _ _ ?_ (fun hHeld => ?_)
              · exact (BAG.out.box P0.out).cells.2.2.2
              clear hK K
              (try simp only [Act.put, List.setIfInBounds_toArray, List.set_cons_zero, List.set_cons_succ])
              refine wpAnyH_take (i := 10) (oi := (Go.Oper.mk (some 0) (Go.Op.assign (Go.Operand.tmp 74)) 61 _ #[Go.Edge.mk 9 Go.Ground.data, Go.Edge.mk 9 Go.Ground.chain, Go.Edge.mk 0 Go.Ground.phase, Go.Edge.mk 1 Go.Ground.phase, Go.Edge.mk 2 Go.Ground.phase, Go.Edge.mk 3 Go.Ground.phase, Go.Edge.mk 4 Go.Ground.phase, Go.Edge.mk 5 Go.Ground.phase, Go.Edge.mk 6 Go.Ground.phase, Go.Edge.mk 7 Go.Ground.phase, Go.Edge.mk 8 Go.Ground.phase, Go.Edge.mk 9 Go.Ground.phase] none)) (v := ?_) rfl (by kernel_rfl) (by kernel_rfl) (by kernel_rfl) (fun _ _ _ h => h) (Or.inl ⟨by rfl, ?_⟩) hHeld ?_
              rotate_left
              · intro w hSw; (try dsimp only at hSw); go_simp; (try with_reducible rfl)
              simp only [Act.put, List.setIfInBounds_toArray, List.set_cons_zero, List.set_cons_succ]
              refine wpAnyH_done (by kernel_rfl) ?_ _
              have BAG := Lib.hid BAG.out.forget
              have BAG : Hid (Bag w0.heap.size w0 (w.alloc (.cells #[.int .i64 6, .string (str t), .int .i64 n, .slice ao l.length cp] 24)) _ _ (bs ++ (42 :: (Lib.itoa l.length ++ [13, 10]))) true []) := (by show Bag _ _ _ _ _ _ _ _; simpa using BAG.out)
              go_wp2
              go_loopw [0, 5] (fun u i wr => ∃ j : Nat, j ≤ l.length ∧ i = .int .i64 j ∧ Hid (Bag w0.heap.size w0 (w.alloc (.cells #[.int .i64 6, .string (str t), .int .i64 n, .slice ao l.length cp] 24)) wr u (bs ++ (42 :: (Lib.itoa l.length ++ [13, 10])) ++ (l.take j).flatMap (Pl.encL d)) true [])) (fun _ i _ => l.length - (intOf i).toNat)
              case atStart => exact ⟨0, Nat.zero_le _, rfl, (by show Bag _ _ _ _ _ _ _ _; simpa using BAG.out)⟩
              case round =>
                obtain ⟨j, hj, rfl, BAGj⟩ := hrel
                obtain ⟨p0, p1, p2, p3⟩ := (BAGj.out.box P0.out).cells
                by_cases hlt : j < l.length
                · obtain ⟨g, off, r, lv, rfl, hg, hr, hok, k0, k1, k2, k3, hLe⟩ := HL.out.at hlt
                  have HR := Lib.hid hr
                  have HTj := Lib.hid (HT.out j r hr)
                  clear hr
                  obtain ⟨aj, cj, rfl⟩ := hLe.shape
                  have HI := Lib.hid (IH.out r (.slice aj r.l.length cj) G w0 hok hLe (List.all_eq_true.1 HM.out r (List.mem_of_getElem? HR.out)))
                  have q0 := (BAGj.out.bel.cell hg).trans k0
                  have q1 := (BAGj.out.bel.cell hg).trans k1
                  have q2 := (BAGj.out.bel.cell hg).trans k2
                  have q3 := (BAGj.out.bel.cell hg).trans k3
                  clear k0 k1 k2 k3 hLe
                  go_wp2_with fail
                  ((with_reducible refine (HI.out _ _ _ BAGj.out.start HTj.out).mono ?_); rintro e w5 ⟨v5, rfl, h5⟩)
                  have HB5 : Hid (Bag w0.heap.size w0 (w.alloc (.cells #[.int .i64 6, .string (str t), .int .i64 n, .slice (some ⟨g, off, none⟩) l.length cp] 24)) w5 v5 (bs ++ (42 :: (Lib.itoa l.length ++ [13, 10])) ++ (l.take (j + 1)).flatMap (Pl.encL d)) true []) := (by
                    show Bag _ _ _ _ _ _ _ _
                    rw [← take_more HR.out, List.flatMap_append, List.flatMap_singleton, ← List.append_assoc]
                    exact h5.from1 BAGj.out.spr)
                  clear h5
                  go_wp2
                  go_roundw
                  case rel => exact ⟨j + 1, by omega, by go_num, HB5⟩
                  case measure => simp [intOf]; omega
                · obtain rfl : j = l.length := by omega
                  rw [List.take_length] at BAGj
                  go_wp2
                  go_ret
                  exact ⟨_, rfl, by simpa using BAGj.out.from1 SP.out⟩
        · skip
          go_simp
          have BAG := Lib.hid (BAG.out.build [13, 10] #[.int .u8 13, .int .u8 10] rfl)
          refine hK.out _ _ ?_ (fun hHeld => ?_)
          · exact (BAG.out.box P0.out).cells.2.2.2
          clear hK K
          (try simp only [Act.put, List.setIfInBounds_toArray, List.set_cons_zero, List.set_cons_succ])
          refine wpAnyH_ready (rs := [7]) (by kernel_rfl) (by simp) ?_
          refine (AllReadyH.cons (o := (Go.Oper.mk (some 72) (Go.Op.call (Go.Call.mk (Go.Callee.builtin Go.Builtin.append) #[Go.Operand.tmp 67, Go.Operand.tmp 71] #[61, 9])) 61 _ #[Go.Edge.mk 2 Go.Ground.data, Go.Edge.mk 6 Go.Ground.data, Go.Edge.mk 6 Go.Ground.chain] none)) rfl (fun K hK => ?_) AllReadyH.nil)
          · skip
            (rw [if_pos (by rfl)]; refine bag_str BAG.out (.tmp 67) (.tmp 71) rfl rfl (str (Lib.itoa l.length)) (Lib.itoa l.length) (by first | rfl | simp [str] | (rw [str_size]; rfl)) rfl (by have := HLEN.out; simp at this ⊢; omega) ?_; intro v2 W2 hbag; have BAG := Lib.hid hbag; clear hbag)
            refine hK.out _ _ ?_ (fun hHeld => ?_)
            · exact (BAG.out.box P0.out).cells.2.2.2
            clear hK K
            (try simp only [Act.put, List.setIfInBounds_toArray, List.set_cons_zero, List.set_cons_succ])
            refine wpAnyH_ready (rs := [9]) (by kernel_rfl) (by simp) ?_
            refine (AllReadyH.cons (o := (Go.Oper.mk (some 74) (Go.Op.call (Go.Call.mk (Go.Callee.builtin Go.Builtin.append) #[Go.Operand.tmp 72, Go.Operand.tmp 73] #[61, 61])) 61 _ #[Go.Edge.mk 7 Go.Ground.data, Go.Edge.mk 8 Go.Ground.data, Go.Edge.mk 7 Go.Ground.chain] none)) rfl (fun K hK => ?_) AllReadyH.nil)
            · skip
              (rw [if_pos (by rfl)]; refine bag_last BAG.out (.tmp 72) (.tmp 73) rfl rfl _ [13, 10] _ rfl (by simp) (by have := HLEN.out; simp at this ⊢; omega) ?_; intro v3 W3 hbag; have BAG := Lib.hid hbag; clear hbag)
              refine hK.out _ _ ?_ (fun hHeld => ?_)
              · exact (BAG.out.box P0.out).cells.2.2.2
              clear hK K
              (try simp only [Act.put, List.setIfInBounds_toArray, List.set_cons_zero, List.set_cons_succ])
              refine wpAnyH_take (i := 10) (oi := (Go.Oper.mk (some 0) (Go.Op.assign (Go.Operand.tmp 74)) 61 _ #[Go.Edge.mk 9 Go.Ground.data, Go.Edge.mk 9 Go.Ground.chain, Go.Edge.mk 0 Go.Ground.phase, Go.Edge.mk 1 Go.Ground.phase, Go.Edge.mk 2 Go.Ground.phase, Go.Edge.mk 3 Go.Ground.phase, Go.Edge.mk 4 Go.Ground.phase, Go.Edge.mk 5 Go.Ground.phase, Go.Edge.mk 6 Go.Ground.phase, Go.Edge.mk 7 Go.Ground.phase, Go.Edge.mk 8 Go.Ground.phase, Go.Edge.mk 9 Go.Ground.phase] none)) (v := ?_) rfl (by kernel_rfl) (by kernel_rfl) (by kernel_rfl) (fun _ _ _ h => h) (Or.inl ⟨by rfl, ?_⟩) hHeld ?_
              rotate_left
              · intro w hSw; (try dsimp only at hSw); go_simp; (try with_reducible rfl)
              simp only [Act.put, List.setIfInBounds_toArray, List.set_cons_zero, List.set_cons_succ]
              refine wpAnyH_done (by kernel_rfl) ?_ _
              have BAG := Lib.hid BAG.out.forget
              have BAG : Hid (Bag w0.heap.size w0 (w.alloc (.cells #[.int .i64 6, .string (str t), .int .i64 n, .slice ao l.length cp] 24)) _ _ (bs ++ (42 :: (Lib.itoa l.length ++ [13, 10]))) true []) := (by show Bag _ _ _ _ _ _ _ _; simpa using BAG.out)
              go_wp2
              go_loopw [0, 5] (fun u i wr => ∃ j : Nat, j ≤ l.length ∧ i = .int .i64 j ∧ Hid (Bag w0.heap.size w0 (w.alloc (.cells #[.int .i64 6, .string (str t), .int .i64 n, .slice ao l.length cp] 24)) wr u (bs ++ (42 :: (Lib.itoa l.length ++ [13, 10])) ++ (l.take j).flatMap (Pl.encL d)) true [])) (fun _ i _ => l.length - (intOf i).toNat)
              case atStart => exact ⟨0, Nat.zero_le _, rfl, (by show Bag _ _ _ _ _ _ _ _; simpa using BAG.out)⟩
              case round =>
                obtain ⟨j, hj, rfl, BAGj⟩ := hrel
                obtain ⟨p0, p1, p2, p3⟩ := (BAGj.out.box P0.out).cells
                by_cases hlt : j < l.length
                · obtain ⟨g, off, r, lv, rfl, hg, hr, hok, k0, k1, k2, k3, hLe⟩ := HL.out.at hlt
                  have HR := Lib.hid hr
                  have HTj := Lib.hid (HT.out j r hr)
                  clear hr
                  obtain ⟨aj, cj, rfl⟩ := hLe.shape
                  have HI := Lib.hid (IH.out r (.slice aj r.l.length cj) G w0 hok hLe (List.all_eq_true.1 HM.out r (List.mem_of_getElem? HR.out)))
                  have q0 := (BAGj.out.bel.cell hg).trans k0
                  have q1 := (BAGj.out.bel.cell hg).trans k1
                  have q2 := (BAGj.out.bel.cell hg).trans k2
                  have q3 := (BAGj.out.bel.cell hg).trans k3
                  clear k0 k1 k2 k3 hLe
                  go_wp2_with fail
                  ((with_reducible refine (HI.out _ _ _ BAGj.out.start HTj.out).mono ?_); rintro e w5 ⟨v5, rfl, h5⟩)
                  have HB5 : Hid (Bag w0.heap.size w0 (w.alloc (.cells #[.int .i64 6, .string (str t), .int .i64 n, .slice (some ⟨g, off, none⟩) l.length cp] 24)) w5 v5 (bs ++ (42 :: (Lib.itoa l.length ++ [13, 10])) ++ (l.take (j + 1)).flatMap (Pl.encL d)) true []) := (by
                    show Bag _ _ _ _ _ _ _ _
                    rw [← take_more HR.out, List.flatMap_append, List.flatMap_singleton, ← List.append_assoc]
                    exact h5.from1 BAGj.out.spr)
                  clear h5
                  go_wp2
                  go_roundw
                  case rel => exact ⟨j + 1, by omega, by go_num, HB5⟩
                  case measure => simp [intOf]; omega
                · obtain rfl : j = l.length := by omega
                  rw [List.take_length] at BAGj
                  go_wp2
                  go_ret
                  exact ⟨_, rfl, by simpa using BAGj.out.from1 SP.out⟩
      · skip
        go_simp
        have BAG := Lib.hid (BAG.out.build [13, 10] #[.int .u8 13, .int .u8 10] rfl)
        refine hK.out _ _ ?_ (fun hHeld => ?_)
        · exact (BAG.out.box P0.out).cells.2.2.2
        clear hK K
        (try simp only [Act.put, List.setIfInBounds_toArray, List.set_cons_zero, List.set_cons_succ])
        refine wpAnyH_ready (rs := [6]) (by kernel_rfl) (by simp) ?_
        refine (AllReadyH.cons (o := (Go.Oper.mk (some 71) (Go.Op.call (Go.Call.mk (Go.Callee.value (Go.Operand.func 29)) #[Go.Operand.tmp 70] #[3])) 9 _ #[Go.Edge.mk 5 Go.Ground.data, Go.Edge.mk 2 Go.Ground.chain] none)) rfl (fun K hK => ?_) AllReadyH.nil)
        · skip
          go_simp
          (with_reducible refine (refPrint_any l.length (by omega) (by omega) _).mono ?_); rintro e wx ⟨rfl, bx⟩; have BAG := Lib.hid (BAG.out.later bx); clear bx
          go_wp2_with fail
          refine hK.out _ _ ?_ (fun hHeld => ?_)
          · exact (BAG.out.box P0.out).cells.2.2.2
          clear hK K
          (try simp only [Act.put, List.setIfInBounds_toArray, List.set_cons_zero, List.set_cons_succ])
          refine wpAnyH_ready (rs := [7]) (by kernel_rfl) (by simp) ?_
          refine (AllReadyH.cons (o := (Go.Oper.mk (some 72) (Go.Op.call (Go.Call.mk (Go.Callee.builtin Go.Builtin.append) #[Go.Operand.tmp 67, Go.Operand.tmp 71] #[61, 9])) 61 _ #[Go.Edge.mk 2 Go.Ground.data, Go.Edge.mk 6 Go.Ground.data, Go.Edge.mk 6 Go.Ground.chain] none)) rfl (fun K hK => ?_) AllReadyH.nil)
          · skip
            (rw [if_pos (by rfl)]; refine bag_str BAG.out (.tmp 67) (.tmp 71) rfl rfl (str (Lib.itoa l.length)) (Lib.itoa l.length) (by first | rfl | simp [str] | (rw [str_size]; rfl)) rfl (by have := HLEN.out; simp at this ⊢; omega) ?_; intro v2 W2 hbag; have BAG := Lib.hid hbag; clear hbag)
            refine hK.out _ _ ?_ (fun hHeld => ?_)
            · exact (BAG.out.box P0.out).cells.2.2.2
            clear hK K
            (try simp only [Act.put, List.setIfInBounds_toArray, List.set_cons_zero, List.set_cons_succ])
            refine wpAnyH_ready (rs := [9]) (by kernel_rfl) (by simp) ?_
            refine (AllReadyH.cons (o := (Go.Oper.mk (some 74) (Go.Op.call (Go.Call.mk (Go.Callee.builtin Go.Builtin.append) #[Go.Operand.tmp 72, Go.Operand.tmp 73] #[61, 61])) 61 _ #[Go.Edge.mk 7 Go.Ground.data, Go.Edge.mk 8 Go.Ground.data, Go.Edge.mk 7 Go.Ground.chain] none)) rfl (fun K hK => ?_) AllReadyH.nil)
            · skip
              (rw [if_pos (by rfl)]; refine bag_last BAG.out (.tmp 72) (.tmp 73) rfl rfl _ [13, 10] _ rfl (by simp) (by have := HLEN.out; simp at this ⊢; omega) ?_; intro v3 W3 hbag; have BAG := Lib.hid hbag; clear hbag)
              refine hK.out _ _ ?_ (fun hHeld => ?_)
              · exact (BAG.out.box P0.out).cells.2.2.2
              clear hK K
              (try simp only [Act.put, List.setIfInBounds_toArray, List.set_cons_zero, List.set_cons_succ])
              refine wpAnyH_take (i := 10) (oi := (Go.Oper.mk (some 0) (Go.Op.assign (Go.Operand.tmp 74)) 61 _ #[Go.Edge.mk 9 Go.Ground.data, Go.Edge.mk 9 Go.Ground.chain, Go.Edge.mk 0 Go.Ground.phase, Go.Edge.mk 1 Go.Ground.phase, Go.Edge.mk 2 Go.Ground.phase, Go.Edge.mk 3 Go.Ground.phase, Go.Edge.mk 4 Go.Ground.phase, Go.Edge.mk 5 Go.Ground.phase, Go.Edge.mk 6 Go.Ground.phase, Go.Edge.mk 7 Go.Ground.phase, Go.Edge.mk 8 Go.Ground.phase, Go.Edge.mk 9 Go.Ground.phase] none)) (v := ?_) rfl (by kernel_rfl) (by kernel_rfl) (by kernel_rfl) (fun _ _ _ h => h) (Or.inl ⟨by rfl, ?_⟩) hHeld ?_
              rotate_left
              · intro w hSw; (try dsimp only at hSw); go_simp; (try with_reducible rfl)
              simp only [Act.put, List.setIfInBounds_toArray, List.set_cons_zero, List.set_cons_succ]
              refine wpAnyH_done (by kernel_rfl) ?_ _
              have BAG := Lib.hid BAG.out.forget
              have BAG : Hid (Bag w0.heap.size w0 (w.alloc (.cells #[.int .i64 6, .string (str t), .int .i64 n, .slice ao l.length cp] 24)) _ _ (bs ++ (42 :: (Lib.itoa l.length ++ [13, 10]))) true []) := (by show Bag _ _ _ _ _ _ _ _; simpa using BAG.out)
              go_wp2
              go_loopw [0, 5] (fun u i wr => ∃ j : Nat, j ≤ l.length ∧ i = .int .i64 j ∧ Hid (Bag w0.heap.size w0 (w.alloc (.cells #[.int .i64 6, .string (str t), .int .i64 n, .slice ao l.length cp] 24)) wr u (bs ++ (42 :: (Lib.itoa l.length ++ [13, 10])) ++ (l.take j).flatMap (Pl.encL d)) true [])) (fun _ i _ => l.length - (intOf i).toNat)
              case atStart => exact ⟨0, Nat.zero_le _, rfl, (by show Bag _ _ _ _ _ _ _ _; simpa using BAG.out)⟩
              case round =>
                obtain ⟨j, hj, rfl, BAGj⟩ := hrel
                obtain ⟨p0, p1, p2, p3⟩ := (BAGj.out.box P0.out).cells
                by_cases hlt : j < l.length
                · obtain ⟨g, off, r, lv, rfl, hg, hr, hok, k0, k1, k2, k3, hLe⟩ := HL.out.at hlt
                  have HR := Lib.hid hr
                  have HTj := Lib.hid (HT.out j r hr)
                  clear hr
                  obtain ⟨aj, cj, rfl⟩ := hLe.shape
                  have HI := Lib.hid (IH.out r (.slice aj r.l.length cj) G w0 hok hLe (List.all_eq_true.1 HM.out r (List.mem_of_getElem? HR.out)))
                  have q0 := (BAGj.out.bel.cell hg).trans k0
                  have q1 := (BAGj.out.bel.cell hg).trans k1
                  have q2 := (BAGj.out.bel.cell hg).trans k2
                  have q3 := (BAGj.out.bel.cell hg).trans k3
                  clear k0 k1 k2 k3 hLe
                  go_wp2_with fail
                  ((with_reducible refine (HI.out _ _ _ BAGj.out.start HTj.out).mono ?_); rintro e w5 ⟨v5, rfl, h5⟩)
                  have HB5 : Hid (Bag w0.heap.size w0 (w.alloc (.cells #[.int .i64 6, .string (str t), .int .i64 n, .slice (some ⟨g, off, none⟩) l.length cp] 24)) w5 v5 (bs ++ (42 :: (Lib.itoa l.length ++ [13, 10])) ++ (l.take (j + 1)).flatMap (Pl.encL d)) true []) := (by
                    show Bag _ _ _ _ _ _ _ _
                    rw [← take_more HR.out, List.flatMap_append, List.flatMap_singleton, ← List.append_assoc]
                    exact h5.from1 BAGj.out.spr)
                  clear h5
                  go_wp2
                  go_roundw
                  case rel => exact ⟨j + 1, by omega, by go_num, HB5⟩
                  case measure => simp [intOf]; omega
                · obtain rfl : j = l.length := by omega
                  rw [List.take_length] at BAGj
                  go_wp2
                  go_ret
                  exact ⟨_, rfl, by simpa using BAGj.out.from1 SP.out⟩
    · skip
      go_simp
      have BAG := Lib.hid (BAG.out.build [13, 10] #[.int .u8 13, .int .u8 10] rfl)
      refine hK.out _ _ ?_ (fun hHeld => ?_)
      · exact (BAG.out.box P0.out).cells.2.2.2
      clear hK K
      (try simp only [Act.put, List.setIfInBounds_toArray, List.set_cons_zero, List.set_cons_succ])
      refine wpAnyH_ready (rs := [2]) (by kernel_rfl) (by simp) ?_
      refine (AllReadyH.cons (o := (Go.Oper.mk (some 67) (Go.Op.call (Go.Call.mk (Go.Callee.builtin Go.Builtin.append) #[Go.Operand.tmp 65, Go.Operand.tmp 66] #[61, 61])) 61 _ #[Go.Edge.mk 0 Go.Ground.data, Go.Edge.mk 1 Go.Ground.data] none)) rfl (fun K hK => ?_) AllReadyH.nil)
      · skip
        (rw [if_pos (by rfl)]; refine bag_app BAG.out (.tmp 65) (.tmp 66) rfl rfl _ [42] _ rfl (by simp) (by have := HLEN.out; simp at this ⊢; omega) ?_; intro v1 W1 hbag; have BAG := Lib.hid hbag; clear hbag)
        refine hK.out _ _ ?_ (fun hHeld => ?_)
        · exact (BAG.out.box P0.out).cells.2.2.2
        clear hK K
        (try simp only [Act.put, List.setIfInBounds_toArray, List.set_cons_zero, List.set_cons_succ])
        refine wpAnyH_ready (rs := [6]) (by kernel_rfl) (by simp) ?_
        refine (AllReadyH.cons (o := (Go.Oper.mk (some 71) (Go.Op.call (Go.Call.mk (Go.Callee.value (Go.Operand.func 29)) #[Go.Operand.tmp 70] #[3])) 9 _ #[Go.Edge.mk 5 Go.Ground.data, Go.Edge.mk 2 Go.Ground.chain] none)) rfl (fun K hK => ?_) AllReadyH.nil)
        · skip
          go_simp
          (with_reducible refine (refPrint_any l.length (by omega) (by omega) _).mono ?_); rintro e wx ⟨rfl, bx⟩; have BAG := Lib.hid (BAG.out.later bx); clear bx
          go_wp2_with fail
          refine hK.out _ _ ?_ (fun hHeld => ?_)
          · exact (BAG.out.box P0.out).cells.2.2.2
          clear hK K
          (try simp only [Act.put, List.setIfInBounds_toArray, List.set_cons_zero, List.set_cons_succ])
          refine wpAnyH_ready (rs := [7]) (by kernel_rfl) (by simp) ?_
          refine (AllReadyH.cons (o := (Go.Oper.mk (some 72) (Go.Op.call (Go.Call.mk (Go.Callee.builtin Go.Builtin.append) #[Go.Operand.tmp 67, Go.Operand.tmp 71] #[61, 9])) 61 _ #[Go.Edge.mk 2 Go.Ground.data, Go.Edge.mk 6 Go.Ground.data, Go.Edge.mk 6 Go.Ground.chain] none)) rfl (fun K hK => ?_) AllReadyH.nil)
          · skip
            (rw [if_pos (by rfl)]; refine bag_str BAG.out (.tmp 67) (.tmp 71) rfl rfl (str (Lib.itoa l.length)) (Lib.itoa l.length) (by first | rfl | simp [str] | (rw [str_size]; rfl)) rfl (by have := HLEN.out; simp at this ⊢; omega) ?_; intro v2 W2 hbag; have BAG := Lib.hid hbag; clear hbag)
            refine hK.out _ _ ?_ (fun hHeld => ?_)
            · exact (BAG.out.box P0.out).cells.2.2.2
            clear hK K
            (try simp only [Act.put, List.setIfInBounds_toArray, List.set_cons_zero, List.set_cons_succ])
            refine wpAnyH_ready (rs := [9]) (by kernel_rfl) (by simp) ?_
            refine (AllReadyH.cons (o := (Go.Oper.mk (some 74) (Go.Op.call (Go.Call.mk (Go.Callee.builtin Go.Builtin.append) #[Go.Operand.tmp 72, Go.Operand.tmp 73] #[61, 61])) 61 _ #[Go.Edge.mk 7 Go.Ground.data, Go.Edge.mk 8 Go.Ground.data, Go.Edge.mk 7 Go.Ground.chain] none)) rfl (fun K hK => ?_) AllReadyH.nil)
            · skip
              (rw [if_pos (by rfl)]; refine bag_last BAG.out (.tmp 72) (.tmp 73) rfl rfl _ [13, 10] _ rfl (by simp) (by have := HLEN.out; simp at this ⊢; omega) ?_; intro v3 W3 hbag; have BAG := Lib.hid hbag; clear hbag)
              refine hK.out _ _ ?_ (fun hHeld => ?_)
              · exact (BAG.out.box P0.out).cells.2.2.2
              clear hK K
              (try simp only [Act.put, List.setIfInBounds_toArray, List.set_cons_zero, List.set_cons_succ])
              refine wpAnyH_take (i := 10) (oi := (Go.Oper.mk (some 0) (Go.Op.assign (Go.Operand.tmp 74)) 61 _ #[Go.Edge.mk 9 Go.Ground.data, Go.Edge.mk 9 Go.Ground.chain, Go.Edge.mk 0 Go.Ground.phase, Go.Edge.mk 1 Go.Ground.phase, Go.Edge.mk 2 Go.Ground.phase, Go.Edge.mk 3 Go.Ground.phase, Go.Edge.mk 4 Go.Ground.phase, Go.Edge.mk 5 Go.Ground.phase, Go.Edge.mk 6 Go.Ground.phase, Go.Edge.mk 7 Go.Ground.phase, Go.Edge.mk 8 Go.Ground.phase, Go.Edge.mk 9 Go.Ground.phase] none)) (v := ?_) rfl (by kernel_rfl) (by kernel_rfl) (by kernel_rfl) (fun _ _ _ h => h) (Or.inl ⟨by rfl, ?_⟩) hHeld ?_
              rotate_left
              · intro w hSw; (try dsimp only at hSw); go_simp; (try with_reducible rfl)
              simp only [Act.put, List.setIfInBounds_toArray, List.set_cons_zero, List.set_cons_succ]
              refine wpAnyH_done (by kernel_rfl) ?_ _
              have BAG := Lib.hid BAG.out.forget
              have BAG : Hid (Bag w0.heap.size w0 (w.alloc (.cells #[.int .i64 6, .string (str t), .int .i64 n, .slice ao l.length cp] 24)) _ _ (bs ++ (42 :: (Lib.itoa l.length ++ [13, 10]))) true []) := (by show Bag _ _ _ _ _ _ _ _; simpa using BAG.out)
              go_wp2
              go_loopw [0, 5] (fun u i wr => ∃ j : Nat, j ≤ l.length ∧ i = .int .i64 j ∧ Hid (Bag w0.heap.size w0 (w.alloc (.cells #[.int .i64 6, .string (str t), .int .i64 n, .slice ao l.length cp] 24)) wr u (bs ++ (42 :: (Lib.itoa l.length ++ [13, 10])) ++ (l.take j).flatMap (Pl.encL d)) true [])) (fun _ i _ => l.length - (intOf i).toNat)
              case atStart => exact ⟨0, Nat.zero_le _, rfl, (by show Bag _ _ _ _ _ _ _ _; simpa using BAG.out)⟩
              case round =>
                obtain ⟨j, hj, rfl, BAGj⟩ := hrel
                obtain ⟨p0, p1, p2, p3⟩ := (BAGj.out.box P0.out).cells
                by_cases hlt : j < l.length
                · obtain ⟨g, off, r, lv, rfl, hg, hr, hok, k0, k1, k2, k3, hLe⟩ := HL.out.at hlt
                  have HR := Lib.hid hr
                  have HTj := Lib.hid (HT.out j r hr)
                  clear hr
                  obtain ⟨aj, cj, rfl⟩ := hLe.shape
                  have HI := Lib.hid (IH.out r (.slice aj r.l.length cj) G w0 hok hLe (List.all_eq_true.1 HM.out r (List.mem_of_getElem? HR.out)))
                  have q0 := (BAGj.out.bel.cell hg).trans k0
                  have q1 := (BAGj.out.bel.cell hg).trans k1
                  have q2 := (BAGj.out.bel.cell hg).trans k2
                  have q3 := (BAGj.out.bel.cell hg).trans k3
                  clear k0 k1 k2 k3 hLe
                  go_wp2_with fail
                  ((with_reducible refine (HI.out _ _ _ BAGj.out.start HTj.out).mono ?_); rintro e w5 ⟨v5, rfl, h5⟩)
                  have HB5 : Hid (Bag w0.heap.size w0 (w.alloc (.cells #[.int .i64 6, .string (str t), .int .i64 n, .slice (some ⟨g, off, none⟩) l.length cp] 24)) w5 v5 (bs ++ (42 :: (Lib.itoa l.length ++ [13, 10])) ++ (l.take (j + 1)).flatMap (Pl.encL d)) true []) := (by
                    show Bag _ _ _ _ _ _ _ _
                    rw [← take_more HR.out, List.flatMap_append, List.flatMap_singleton, ← List.append_assoc]
                    exact h5.from1 BAGj.out.spr)
                  clear h5
                  go_wp2
                  go_roundw
                  case rel => exact ⟨j + 1, by omega, by go_num, HB5⟩
                  case measure => simp [intOf]; omega
                · obtain rfl : j = l.length := by omega
                  rw [List.take_length] at BAGj
                  go_wp2
                  go_ret
                  exact ⟨_, rfl, by simpa using BAGj.out.from1 SP.out⟩
  · skip
    go_simp
    have BAG := Lib.hid (BAG.out.build [13, 10] #[.int .u8 13, .int .u8 10] rfl)
    refine hK.out _ _ ?_ (fun hHeld => ?_)
    · exact (BAG.out.box P0.out).cells.2.2.2
    clear hK K
    (try simp only [Act.put, List.setIfInBounds_toArray, List.set_cons_zero, List.set_cons_succ])
    refine wpAnyH_ready (rs := [1]) (by kernel_rfl) (by simp) ?_
    refine (AllReadyH.cons (o := (Go.Oper.mk (some 66) (Go.Op.buildSlice 61 1 #[(0, Go.Operand.const (Go.Value.int Go.IntKind.u8 42))]) 61 _ #[] none)) rfl (fun K hK => ?_) AllReadyH.nil)
    · skip
      go_simp
      have BAG := Lib.hid (BAG.out.build [42] #[.int .u8 42] rfl)
      refine hK.out _ _ ?_ (fun hHeld => ?_)
      · exact (BAG.out.box P0.out).cells.2.2.2
      clear hK K
      (try simp only [Act.put, List.setIfInBounds_toArray, List.set_cons_zero, List.set_cons_succ])
      refine wpAnyH_ready (rs := [2]) (by kernel_rfl) (by simp) ?_
      refine (AllReadyH.cons (o := (Go.Oper.mk (some 67) (Go.Op.call (Go.Call.mk (Go.Callee.builtin Go.Builtin.append) #[Go.Operand.tmp 65, Go.Operand.tmp 66] #[61, 61])) 61 _ #[Go.Edge.mk 0 Go.Ground.data, Go.Edge.mk 1 Go.Ground.data] none)) rfl (fun K hK => ?_) AllReadyH.nil)
      · skip
        (rw [if_pos (by rfl)]; refine bag_app BAG.out (.tmp 65) (.tmp 66) rfl rfl _ [42] _ rfl (by simp) (by have := HLEN.out; simp at this ⊢; omega) ?_; intro v1 W1 hbag; have BAG := Lib.hid hbag; clear hbag)
        refine hK.out _ _ ?_ (fun hHeld => ?_)
        · exact (BAG.out.box P0.out).cells.2.2.2
        clear hK K
        (try simp only [Act.put, List.setIfInBounds_toArray, List.set_cons_zero, List.set_cons_succ])
        refine wpAnyH_ready (rs := [6]) (by kernel_rfl) (by simp) ?_
        refine (AllReadyH.cons (o := (Go.Oper.mk (some 71) (Go.Op.call (Go.Call.mk (Go.Callee.value (Go.Operand.func 29)) #[Go.Operand.tmp 70] #[3])) 9 _ #[Go.Edge.mk 5 Go.Ground.data, Go.Edge.mk 2 Go.Ground.chain] none)) rfl (fun K hK => ?_) AllReadyH.nil)
        · skip
          go_simp
          (with_reducible refine (refPrint_any l.length (by omega) (by omega) _).mono ?_); rintro e wx ⟨rfl, bx⟩; have BAG := Lib.hid (BAG.out.later bx); clear bx
          go_wp2_with fail
          refine hK.out _ _ ?_ (fun hHeld => ?_)
          · exact (BAG.out.box P0.out).cells.2.2.2
          clear hK K
          (try simp only [Act.put, List.setIfInBounds_toArray, List.set_cons_zero, List.set_cons_succ])
          refine wpAnyH_ready (rs := [7]) (by kernel_rfl) (by simp) ?_
          refine (AllReadyH.cons (o := (Go.Oper.mk (some 72) (Go.Op.call (Go.Call.mk (Go.Callee.builtin Go.Builtin.append) #[Go.Operand.tmp 67, Go.Operand.tmp 71] #[61, 9])) 61 _ #[Go.Edge.mk 2 Go.Ground.data, Go.Edge.mk 6 Go.Ground.data, Go.Edge.mk 6 Go.Ground.chain] none)) rfl (fun K hK => ?_) AllReadyH.nil)
          · skip
            (rw [if_pos (by rfl)]; refine bag_str BAG.out (.tmp 67) (.tmp 71) rfl rfl (str (Lib.itoa l.length)) (Lib.itoa l.length) (by first | rfl | simp [str] | (rw [str_size]; rfl)) rfl (by have := HLEN.out; simp at this ⊢; omega) ?_; intro v2 W2 hbag; have BAG := Lib.hid hbag; clear hbag)
            refine hK.out _ _ ?_ (fun hHeld => ?_)
            · exact (BAG.out.box P0.out).cells.2.2.2
            clear hK K
            (try simp only [Act.put, List.setIfInBounds_toArray, List.set_cons_zero, List.set_cons_succ])
            refine wpAnyH_ready (rs := [9]) (by kernel_rfl) (by simp) ?_
            refine (AllReadyH.cons (o := (Go.Oper.mk (some 74) (Go.Op.call (Go.Call.mk (Go.Callee.builtin Go.Builtin.append) #[Go.Operand.tmp 72, Go.Operand.tmp 73] #[61, 61])) 61 _ #[Go.Edge.mk 7 Go.Ground.data, Go.Edge.mk 8 Go.Ground.data, Go.Edge.mk 7 Go.Ground.chain] none)) rfl (fun K hK => ?_) AllReadyH.nil)
            · skip
              (rw [if_pos (by rfl)]; refine bag_last BAG.out (.tmp 72) (.tmp 73) rfl rfl _ [13, 10] _ rfl (by simp) (by have := HLEN.out; simp at this ⊢; omega) ?_; intro v3 W3 hbag; have BAG := Lib.hid hbag; clear hbag)
              refine hK.out _ _ ?_ (fun hHeld => ?_)
              · exact (BAG.out.box P0.out).cells.2.2.2
              clear hK K
              (try simp only [Act.put, List.setIfInBounds_toArray, List.set_cons_zero, List.set_cons_succ])
              refine wpAnyH_take (i := 10) (oi := (Go.Oper.mk (some 0) (Go.Op.assign (Go.Operand.tmp 74)) 61 _ #[Go.Edge.mk 9 Go.Ground.data, Go.Edge.mk 9 Go.Ground.chain, Go.Edge.mk 0 Go.Ground.phase, Go.Edge.mk 1 Go.Ground.phase, Go.Edge.mk 2 Go.Ground.phase, Go.Edge.mk 3 Go.Ground.phase, Go.Edge.mk 4 Go.Ground.phase, Go.Edge.mk 5 Go.Ground.phase, Go.Edge.mk 6 Go.Ground.phase, Go.Edge.mk 7 Go.Ground.phase, Go.Edge.mk 8 Go.Ground.phase, Go.Edge.mk 9 Go.Ground.phase] none)) (v := ?_) rfl (by kernel_rfl) (by kernel_rfl) (by kernel_rfl) (fun _ _ _ h => h) (Or.inl ⟨by rfl, ?_⟩) hHeld ?_
              rotate_left
              · intro w hSw; (try dsimp only at hSw); go_simp; (try with_reducible rfl)
              simp only [Act.put, List.setIfInBounds_toArray, List.set_cons_zero, List.set_cons_succ]
              refine wpAnyH_done (by kernel_rfl) ?_ _
              have BAG := Lib.hid BAG.out.forget
              have BAG : Hid (Bag w0.heap.size w0 (w.alloc (.cells #[.int .i64 6, .string (str t), .int .i64 n, .slice ao l.length cp] 24)) _ _ (bs ++ (42 :: (Lib.itoa l.length ++ [13, 10]))) true []) := (by show Bag _ _ _ _ _ _ _ _; simpa using BAG.out)
              go_wp2
              go_loopw [0, 5] (fun u i wr => ∃ j : Nat, j ≤ l.length ∧ i = .int .i64 j ∧ Hid (Bag w0.heap.size w0 (w.alloc (.cells #[.int .i64 6, .string (str t), .int .i64 n, .slice ao l.length cp] 24)) wr u (bs ++ (42 :: (Lib.itoa l.length ++ [13, 10])) ++ (l.take j).flatMap (Pl.encL d)) true [])) (fun _ i _ => l.length - (intOf i).toNat)
              case atStart => exact ⟨0, Nat.zero_le _, rfl, (by show Bag _ _ _ _ _ _ _ _; simpa using BAG.out)⟩
              case round =>
                obtain ⟨j, hj, rfl, BAGj⟩ := hrel
                obtain ⟨p0, p1, p2, p3⟩ := (BAGj.out.box P0.out).cells
                by_cases hlt : j < l.length
                · obtain ⟨g, off, r, lv, rfl, hg, hr, hok, k0, k1, k2, k3, hLe⟩ := HL.out.at hlt
                  have HR := Lib.hid hr
                  have HTj := Lib.hid (HT.out j r hr)
                  clear hr
                  obtain ⟨aj, cj, rfl⟩ := hLe.shape
                  have HI := Lib.hid (IH.out r (.slice aj r.l.length cj) G w0 hok hLe (List.all_eq_true.1 HM.out r (List.mem_of_getElem? HR.out)))
                  have q0 := (BAGj.out.bel.cell hg).trans k0
                  have q1 := (BAGj.out.bel.cell hg).trans k1
                  have q2 := (BAGj.out.bel.cell hg).trans k2
                  have q3 := (BAGj.out.bel.cell hg).trans k3
                  clear k0 k1 k2 k3 hLe
                  go_wp2_with fail
                  ((with_reducible refine (HI.out _ _ _ BAGj.out.start HTj.out).mono ?_); rintro e w5 ⟨v5, rfl, h5⟩)
                  have HB5 : Hid (Bag w0.heap.size w0 (w.alloc (.cells #[.int .i64 6, .string (str t), .int .i64 n, .slice (some ⟨g, off, none⟩) l.length cp] 24)) w5 v5 (bs ++ (42 :: (Lib.itoa l.length ++ [13, 10])) ++ (l.take (j + 1)).flatMap (Pl.encL d)) true []) := (by
                    show Bag _ _ _ _ _ _ _ _
                    rw [← take_more HR.out, List.flatMap_append, List.flatMap_singleton, ← List.append_assoc]
                    exact h5.from1 BAGj.out.spr)
                  clear h5
                  go_wp2
                  go_roundw
                  case rel => exact ⟨j + 1, by omega, by go_num, HB5⟩
                  case measure => simp [intOf]; omega
                · obtain rfl : j = l.length := by omega
                  rw [List.take_length] at BAGj
                  go_wp2
                  go_ret
                  exact ⟨_, rfl, by simpa using BAGj.out.from1 SP.out⟩
theorem bytes_any : ∀ d, BytesOk d
  | d, .mk k t n l, lv, G, w0, hok, hL, hm, v, bs, w, hB, hlen => by
    obtain ⟨hn1, hn2, ht, hl⟩ := hok
    simp only [R.t, R.l, R.n] at ht hl hn1 hn2
    have hL : LIs G w0 lv l := hL
    obtain ⟨ao, cp, e⟩ := hL.shape
    show Calls Tryd.prog 33 #[v, .agg #[.int .i64 k, .string (str t), .int .i64 n, lv]] w _
    rcases may_kind hm with rfl | rfl | rfl | rfl | rfl | rfl | rfl
    · subst e; exact bytes_1 d t ht n hn1 hn2 l ao cp hl w0 v bs w hB hlen
    · subst e; exact bytes_2 d t ht n hn1 hn2 l ao cp hl w0 v bs w hB hlen
    · subst e; exact bytes_3 d t ht n hn1 hn2 l ao cp hl w0 v bs w hB hlen
    · subst e; exact bytes_4 d t ht n hn1 hn2 l ao cp hl w0 v bs w hB hlen
    · subst e; exact bytes_5 d t ht n hn1 hn2 l ao cp hl w0 v bs w hB hlen
    · subst e; exact bytes_7 d t ht n hn1 hn2 l ao cp hl w0 v bs w hB hlen
    · cases d with
      | zero => rw [may_60] at hm; cases hm
      | succ d =>
        rw [may_6s] at hm
        simp only [Bool.and_eq_true] at hm
        exact bytes_6 d (bytes_any d) t ht n l lv G hl w0 hL hm.2 v bs w hB hlen
end Go.Proofs.YtpngmbdchceikaaDoor
