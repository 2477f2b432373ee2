/- show, Show: both. -/
import Derived.Test.YtpngmbdchceikaaDoorRQuote
import Derived.Test.YtpngmbdchceikaaDoorGrow
import Derived.Test.YtpngmbdchceikaaDoorTwin
namespace Go.Proofs.YtpngmbdchceikaaDoor
open Go.ChangeShapes Go.WideShapes Go.ChangeAt Go.RowKit
open Pl (R)
set_option linter.unusedVariables false

theorem str_app (a b : List UInt8) : str a ++ str b = str (a ++ b) := by rw [← str_of (str a ++ str b)]; simp [str]
theorem infoS : (Tryd.prog.info? 9).map (fun i => (i.zero, i.size, i.bytes)) = some (some (.string ⟨#[]⟩), 1, 16) := by kernel_rfl
/-- A row of texts that the call owns. -/
def SOwn (base : Nat) (w : World) (v : Value) (ls : List (List UInt8)) : Prop := w.ownsRow base 9 1 v ls.length (ls.map fun t => .string (str t))
theorem SOwn.later {base : Nat} {w w' : World} {v : Value} {ls : List (List UInt8)} (h : SOwn base w v ls) (hb : Below w.heap.size w w') : SOwn base w' v ls := by
  refine ⟨h.1, h.2.imp id ?_⟩
  rintro ⟨g, cap, cur, h1, h2, h3, h4⟩
  exact ⟨g, cap, cur, h1, h2, (hb.block g (Array.getElem?_eq_some_iff.1 h3).1).trans h3, h4⟩
section
variable {rest : List Oper} {ops : Array Oper} {o : Oper} {a : Act} {K : Act → World → Prop} {Q : Exit → Act → World → Prop}
theorem wp_append_str (w : World) (s x : Operand) (ho : o.op = .call { callee := .builtin .append, args := #[s, x], argTypes := #[41, 41] })
    (base : Nat) (v : Value) (ls : List (List UInt8)) (hs : a.eval s = v) (hown : SOwn base w v ls) (t : List UInt8)
    (hx : a.eval x = .slice (some ⟨w.heap.size, 0, none⟩) 1 1) (hlen : ls.length ≤ 1073741824) (hbase : base ≤ w.heap.size)
    (h : ∀ v' w', SOwn base w' v' (ls ++ [t]) → (∀ (W : World) (B : Nat), Below B W w → B ≤ base → Below B W w') → K (a.put o.dst v') w') :
    o.wp Tryd.prog a (w.alloc (.cells #[.string (str t)] 9)) K Q := by
  obtain ⟨i, hi, hz, hsz, hby⟩ := info_parts infoS
  have hadd : ∀ j, (⟨w.heap.size, 0, none⟩ : Addr).add j = ⟨w.heap.size, j, none⟩ := fun j => by unfold Addr.add; split <;> simp_all
  obtain ⟨v', w', hr, h2, h3, h4, h5⟩ := run_append_own_at (P := Tryd.prog) (w.alloc (.cells #[.string (str t)] 9)) base 41 o.type 9 i _ 1 16 Tryd.underlying41 hi hz hsz hby rfl (by omega) v _ _ (World.ownsRow.alloc hown _) ⟨w.heap.size, 0, none⟩ 1 1 [.string (str t)] rfl
    (fun j y hj => by
      rw [hadd]
      rcases j with _ | j
      · simp at hj; subst hj; exact World.cell?_alloc_mark _ _ _ _ _
      · simp at hj) (by simp; rfl) (by unfold maxLen; omega) (by omega) (by simp; omega)
  have hg2 : w.grownBy w' v.ownBlock := World.grownBy.trans (World.grownBy_alloc w _ _) h3
  unfold Oper.wp execOp
  simp only [ho, resolve, invoke, builtin, Sem.run_bind, Sem.run_pure, Result.andThen_ok, List.map_toArray, List.map_cons, List.map_nil, hs, hx, hr]
  refine h v' w' (by unfold SOwn; rw [List.length_append, List.map_append]; exact h2) (fun W B hb hB => hb.grown hg2 ?_ fun k hk => ?_)
  · omega
  · have := (World.ownsRow.lt hown k hk).1; omega
theorem wpList_append_str (w : World) (hgd : o.guard = none) (s x : Operand) (ho : o.op = .call { callee := .builtin .append, args := #[s, x], argTypes := #[41, 41] })
    (base : Nat) (v : Value) (ls : List (List UInt8)) (hs : a.eval s = v) (hown : SOwn base w v ls) (t : List UInt8)
    (hx : a.eval x = .slice (some ⟨w.heap.size, 0, none⟩) 1 1) (hlen : ls.length ≤ 1073741824) (hbase : base ≤ w.heap.size)
    (h : ∀ v' w', SOwn base w' v' (ls ++ [t]) → (∀ (W : World) (B : Nat), Below B W w → B ≤ base → Below B W w') → wpList Tryd.prog ops Q rest (a.put o.dst v') w') :
    wpList Tryd.prog ops Q (o :: rest) a (w.alloc (.cells #[.string (str t)] 9)) :=
  wpList_plain hgd fun _ hK => wp_append_str w s x ho base v ls hs hown t hx hlen hbase fun v' w' a1 a2 => hK _ _ (h v' w' a1 a2)
end
theorem join_own {base : Nat} {w : World} {v : Value} {ls : List (List UInt8)} (h : SOwn base w v ls) (hl : (Lib.join ls [44, 32]).length ≤ 140737488355328) (hn : ls.length ≤ 1073741824) : ∃ ao cp, v = .slice ao ls.length cp ∧ ∀ W, Below w.heap.size w W → Calls Tryd.prog 41 #[v, .string ⟨#[44, 32]⟩] W fun e w' => e = .returned (.string (str (Lib.join ls [44, 32]))) ∧ Below W.heap.size W w' := by
  rcases h.2 with ⟨h1, h2⟩ | ⟨g, cap, cur, h1, h2, h3, h4, _⟩
  · have : ls = [] := List.eq_nil_of_length_eq_zero h2
    subst this; subst h1
    exact ⟨none, 0, rfl, fun W _ => (Tryd.strings_Join_none none 0 ⟨#[44, 32]⟩ W).mono fun e w' ⟨he, hw⟩ => ⟨he, hw ▸ Below.refl _ _⟩⟩
  · subst h1
    refine ⟨some ⟨g, 0, none⟩, cap, rfl, fun W hW => ?_⟩
    have hd : (ls.map str).map (·.data.toList) = ls := by rw [List.map_map]; conv => rhs; rw [← List.map_id ls]
                                                          exact List.map_congr_left fun t _ => by simp [str]
    have hs : (⟨#[44, 32]⟩ : ByteArray).data.toList = [44, 32] := rfl
    have hown := h.later hW
    have hg : g < w.heap.size := (Array.getElem?_eq_some_iff.1 h3).1
    have := Tryd.strings_Join g 0 cap (ls.map str) ⟨#[44, 32]⟩ W (fun j x hx => by
      rw [List.getElem?_map] at hx
      obtain ⟨t, ht, rfl⟩ := Option.map_eq_some_iff.1 hx
      have hj : j < ls.length := (List.getElem?_eq_some_iff.1 ht).1
      rw [Nat.zero_add, World.ownsRow.cellAt hown j (by omega), List.getElem?_map, ht]; rfl) (by have := hW.size; omega) (by rw [List.length_map]; omega) (by rw [List.length_map]; exact h4) (by rw [hd, hs]; exact hl)
    rw [hd, hs, List.length_map] at this
    exact this
/-- What is shown. -/
def ShowEnd (d : Nat) (r : R) (w : World) (e : Ending) (w' : World) : Prop := e = .returned (.string (str (Pl.showL d r))) ∧ Below w.heap.size w w'
def ShowOk (d : Nat) : Prop := ∀ (r : R) (lv : Value) (F : Nat → Prop) (w : World), OkR r → LIs F w lv r.l → Pl.mayL d r = true → (Pl.encL d r).length ≤ 1073741824 → Pows w → Calls Tryd.prog 28 #[rv r lv] w (ShowEnd d r w)
def RShowOk (d : Nat) : Prop := ∀ (r : R) (lv : Value) (F : Nat → Prop) (w : World), OkR r → LIs F w lv r.l → Pl.mayL d r = true → (Pl.encL d r).length ≤ 1073741824 → Pows w → Calls Tryd.prog 12 #[rv r lv] w (ShowEnd d r w)

set_option maxRecDepth 100000 in
set_option maxHeartbeats 3200000 in
theorem show_1 (d : Nat) (hd : d ≤ 8) (t : List UInt8) (ht : t.length ≤ 1073741824) (n : Int) (hn1 : -9223372036854775808 ≤ n) (hn2 : n ≤ 9223372036854775807) (ao : Option Addr) (cp : Nat) (w : World) (hp : Pows w) (hm : Pl.mayL 8 (.mk 1 t 0 []) = true) :
    Calls Tryd.prog 28 #[.agg #[.int .i64 1, .string (str t), .int .i64 0, .slice ao 0 cp]] w (ShowEnd d (.mk 1 t 0 []) w) := by
  unfold ShowEnd
  rw [Pl.show_1]
  have hb0 : Below w.heap.size w (w.alloc (.cells #[.int .i64 1, .string (str t), .int .i64 0, .slice ao 0 cp] 24)) := (Below.refl _ _).alloc (Nat.le_refl _) _
  have HB0 := Lib.hid hb0
  have P0 := Lib.hid (Blk4.new (w := w) (a := .int .i64 1) (b := .string (str t)) (c := .int .i64 0) (d := .slice ao 0 cp) rfl)
  have HP := Lib.hid hp
  have hts : (str t).size ≤ 1073741824 := by rw [str_size]; exact ht
  have hts2 : (str (Lib.itoa n)).size ≤ 21 := by rw [str_size]; exact itoa_short n hn1 hn2
  clear hb0 hp hm
  go_enter Tryd.func28, Tryd.ntmps28
  go_wp2_with fail
  go_wp2
  go_ret
  exact ⟨rfl, HB0.out⟩
set_option maxRecDepth 100000 in
set_option maxHeartbeats 3200000 in
theorem show_2 (d : Nat) (hd : d ≤ 8) (t : List UInt8) (ht : t.length ≤ 1073741824) (n : Int) (hn1 : -9223372036854775808 ≤ n) (hn2 : n ≤ 9223372036854775807) (ao : Option Addr) (cp : Nat) (w : World) (hp : Pows w) (hm : Pl.mayL 8 (.mk 2 t 0 []) = true) :
    Calls Tryd.prog 28 #[.agg #[.int .i64 2, .string (str t), .int .i64 0, .slice ao 0 cp]] w (ShowEnd d (.mk 2 t 0 []) w) := by
  unfold ShowEnd
  rw [Pl.show_2]
  have hb0 : Below w.heap.size w (w.alloc (.cells #[.int .i64 2, .string (str t), .int .i64 0, .slice ao 0 cp] 24)) := (Below.refl _ _).alloc (Nat.le_refl _) _
  have HB0 := Lib.hid hb0
  have P0 := Lib.hid (Blk4.new (w := w) (a := .int .i64 2) (b := .string (str t)) (c := .int .i64 0) (d := .slice ao 0 cp) rfl)
  have HP := Lib.hid hp
  have hts : (str t).size ≤ 1073741824 := by rw [str_size]; exact ht
  have hts2 : (str (Lib.itoa n)).size ≤ 21 := by rw [str_size]; exact itoa_short n hn1 hn2
  clear hb0 hp hm
  go_enter Tryd.func28, Tryd.ntmps28
  go_wp2_with fail
  go_wp2
  rw [show (⟨#[40, 101, 114, 114, 111, 114, 41, 32]⟩ : ByteArray) ++ str t = str ([40, 101, 114, 114, 111, 114, 41, 32] ++ t) from str_app _ _]
  go_ret
  exact ⟨rfl, HB0.out⟩
set_option maxRecDepth 100000 in
set_option maxHeartbeats 3200000 in
theorem show_3 (d : Nat) (hd : d ≤ 8) (t : List UInt8) (ht : t.length ≤ 1073741824) (n : Int) (hn1 : -9223372036854775808 ≤ n) (hn2 : n ≤ 9223372036854775807) (ao : Option Addr) (cp : Nat) (w : World) (hp : Pows w) (hm : Pl.mayL 8 (.mk 3 [] n []) = true) :
    Calls Tryd.prog 28 #[.agg #[.int .i64 3, .string (str []), .int .i64 n, .slice ao 0 cp]] w (ShowEnd d (.mk 3 [] n []) w) := by
  unfold ShowEnd
  rw [Pl.show_3]
  have hb0 : Below w.heap.size w (w.alloc (.cells #[.int .i64 3, .string (str []), .int .i64 n, .slice ao 0 cp] 24)) := (Below.refl _ _).alloc (Nat.le_refl _) _
  have HB0 := Lib.hid hb0
  have P0 := Lib.hid (Blk4.new (w := w) (a := .int .i64 3) (b := .string (str [])) (c := .int .i64 n) (d := .slice ao 0 cp) rfl)
  have HP := Lib.hid hp
  have hts : (str t).size ≤ 1073741824 := by rw [str_size]; exact ht
  have hts2 : (str (Lib.itoa n)).size ≤ 21 := by rw [str_size]; exact itoa_short n hn1 hn2
  clear hb0 hp hm
  go_enter Tryd.func28, Tryd.ntmps28
  go_wp2_with fail
  ((with_reducible refine (print_any n hn1 hn2 _ (HP.out.kept (B := 0) HB0.out)).mono ?_); rintro e w2 ⟨rfl, b2⟩)
  go_wp2
  rw [show (⟨#[40, 105, 110, 116, 101, 103, 101, 114, 41, 32]⟩ : ByteArray) ++ str (Lib.itoa n) = str ([40, 105, 110, 116, 101, 103, 101, 114, 41, 32] ++ Lib.itoa n) from str_app _ _]
  go_ret
  exact ⟨rfl, HB0.out.trans (b2.mono HB0.out.size)⟩
set_option maxRecDepth 100000 in
set_option maxHeartbeats 3200000 in
theorem show_4 (d : Nat) (hd : d ≤ 8) (t : List UInt8) (ht : t.length ≤ 1073741824) (n : Int) (hn1 : -9223372036854775808 ≤ n) (hn2 : n ≤ 9223372036854775807) (ao : Option Addr) (cp : Nat) (w : World) (hp : Pows w) (hm : Pl.mayL 8 (.mk 4 t 0 []) = true) :
    Calls Tryd.prog 28 #[.agg #[.int .i64 4, .string (str t), .int .i64 0, .slice ao 0 cp]] w (ShowEnd d (.mk 4 t 0 []) w) := by
  unfold ShowEnd
  rw [Pl.show_4]
  have hb0 : Below w.heap.size w (w.alloc (.cells #[.int .i64 4, .string (str t), .int .i64 0, .slice ao 0 cp] 24)) := (Below.refl _ _).alloc (Nat.le_refl _) _
  have HB0 := Lib.hid hb0
  have P0 := Lib.hid (Blk4.new (w := w) (a := .int .i64 4) (b := .string (str t)) (c := .int .i64 0) (d := .slice ao 0 cp) rfl)
  have HP := Lib.hid hp
  have hts : (str t).size ≤ 1073741824 := by rw [str_size]; exact ht
  have hts2 : (str (Lib.itoa n)).size ≤ 21 := by rw [str_size]; exact itoa_short n hn1 hn2
  clear hb0 hp hm
  go_enter Tryd.func28, Tryd.ntmps28
  go_wp2_with fail
  ((with_reducible refine (quoted_any (str t) hts _).mono ?_); rintro e w2 ⟨rfl, b2⟩)
  rw [show (str t).data.toList = t by simp [str]]
  go_wp2
  go_ret
  exact ⟨rfl, HB0.out.trans (b2.mono HB0.out.size)⟩
set_option maxRecDepth 100000 in
set_option maxHeartbeats 3200000 in
theorem show_5 (d : Nat) (hd : d ≤ 8) (t : List UInt8) (ht : t.length ≤ 1073741824) (n : Int) (hn1 : -9223372036854775808 ≤ n) (hn2 : n ≤ 9223372036854775807) (ao : Option Addr) (cp : Nat) (w : World) (hp : Pows w) (hm : Pl.mayL 8 (.mk 5 [] 0 []) = true) :
    Calls Tryd.prog 28 #[.agg #[.int .i64 5, .string (str []), .int .i64 0, .slice ao 0 cp]] w (ShowEnd d (.mk 5 [] 0 []) w) := by
  unfold ShowEnd
  rw [Pl.show_5]
  have hb0 : Below w.heap.size w (w.alloc (.cells #[.int .i64 5, .string (str []), .int .i64 0, .slice ao 0 cp] 24)) := (Below.refl _ _).alloc (Nat.le_refl _) _
  have HB0 := Lib.hid hb0
  have P0 := Lib.hid (Blk4.new (w := w) (a := .int .i64 5) (b := .string (str [])) (c := .int .i64 0) (d := .slice ao 0 cp) rfl)
  have HP := Lib.hid hp
  have hts : (str t).size ≤ 1073741824 := by rw [str_size]; exact ht
  have hts2 : (str (Lib.itoa n)).size ≤ 21 := by rw [str_size]; exact itoa_short n hn1 hn2
  clear hb0 hp hm
  go_enter Tryd.func28, Tryd.ntmps28
  go_wp2_with fail
  go_wp2
  go_ret
  exact ⟨rfl, HB0.out⟩
set_option maxRecDepth 100000 in
set_option maxHeartbeats 3200000 in
theorem show_7 (d : Nat) (hd : d ≤ 8) (t : List UInt8) (ht : t.length ≤ 1073741824) (n : Int) (hn1 : -9223372036854775808 ≤ n) (hn2 : n ≤ 9223372036854775807) (ao : Option Addr) (cp : Nat) (w : World) (hp : Pows w) (hm : Pl.mayL 8 (.mk 7 [] 0 []) = true) :
    Calls Tryd.prog 28 #[.agg #[.int .i64 7, .string (str []), .int .i64 0, .slice ao 0 cp]] w (ShowEnd d (.mk 7 [] 0 []) w) := by
  unfold ShowEnd
  rw [Pl.show_7]
  have hb0 : Below w.heap.size w (w.alloc (.cells #[.int .i64 7, .string (str []), .int .i64 0, .slice ao 0 cp] 24)) := (Below.refl _ _).alloc (Nat.le_refl _) _
  have HB0 := Lib.hid hb0
  have P0 := Lib.hid (Blk4.new (w := w) (a := .int .i64 7) (b := .string (str [])) (c := .int .i64 0) (d := .slice ao 0 cp) rfl)
  have HP := Lib.hid hp
  have hts : (str t).size ≤ 1073741824 := by rw [str_size]; exact ht
  have hts2 : (str (Lib.itoa n)).size ≤ 21 := by rw [str_size]; exact itoa_short n hn1 hn2
  clear hb0 hp hm
  go_enter Tryd.func28, Tryd.ntmps28
  go_wp2_with fail
  go_wp2
  go_ret
  exact ⟨rfl, HB0.out⟩
set_option maxRecDepth 100000 in
set_option maxHeartbeats 3200000 in
theorem rshow_1 (d : Nat) (hd : d ≤ 8) (t : List UInt8) (ht : t.length ≤ 1073741824) (n : Int) (hn1 : -9223372036854775808 ≤ n) (hn2 : n ≤ 9223372036854775807) (ao : Option Addr) (cp : Nat) (w : World) (hp : Pows w) (hm : Pl.mayL 8 (.mk 1 t 0 []) = true) :
    Calls Tryd.prog 12 #[.agg #[.int .i64 1, .string (str t), .int .i64 0, .slice ao 0 cp]] w (ShowEnd d (.mk 1 t 0 []) w) := by
  unfold ShowEnd
  rw [Pl.show_1]
  have hb0 : Below w.heap.size w (w.alloc (.cells #[.int .i64 1, .string (str t), .int .i64 0, .slice ao 0 cp] 24)) := (Below.refl _ _).alloc (Nat.le_refl _) _
  have HB0 := Lib.hid hb0
  have P0 := Lib.hid (Blk4.new (w := w) (a := .int .i64 1) (b := .string (str t)) (c := .int .i64 0) (d := .slice ao 0 cp) rfl)
  have HP := Lib.hid hp
  have hts : (str t).size ≤ 1073741824 := by rw [str_size]; exact ht
  have hts2 : (str (Lib.itoa n)).size ≤ 21 := by rw [str_size]; exact itoa_short n hn1 hn2
  have H := Lib.hid (show Calls Tryd.prog 17 #[.agg #[.int .i64 1, .string (str t), .int .i64 0, .slice ao 0 cp]] _ (MayEnd 8 (.mk 1 t 0 []) _) from refMay8_any (.mk 1 t 0 []) (.slice ao 0 cp) (fun _ => True) (w.alloc (.cells #[.int .i64 1, .string (str t), .int .i64 0, .slice ao 0 cp] 24)) ⟨by simp [R.n]; try omega, by simp [R.n]; try omega, by simp [R.t]; try omega, by simp [R.l]⟩ (.nil _ _))
  unfold MayEnd at H
  rw [hm] at H
  clear hb0 hp hm
  go_enter Tryd.func12, Tryd.ntmps12
  go_wp2_with fail
  ((with_reducible refine H.out.mono ?_); rintro e w1 ⟨rfl, b1⟩)
  have HB1 := Lib.hid (HB0.out.trans (b1.mono HB0.out.size))
  have P1 := Lib.hid (P0.out.later b1)
  obtain ⟨p0, p1, p2, p3⟩ := P1.out.cells
  clear b1
  go_wp2
  go_ret
  exact ⟨rfl, HB1.out⟩
set_option maxRecDepth 100000 in
set_option maxHeartbeats 3200000 in
theorem rshow_2 (d : Nat) (hd : d ≤ 8) (t : List UInt8) (ht : t.length ≤ 1073741824) (n : Int) (hn1 : -9223372036854775808 ≤ n) (hn2 : n ≤ 9223372036854775807) (ao : Option Addr) (cp : Nat) (w : World) (hp : Pows w) (hm : Pl.mayL 8 (.mk 2 t 0 []) = true) :
    Calls Tryd.prog 12 #[.agg #[.int .i64 2, .string (str t), .int .i64 0, .slice ao 0 cp]] w (ShowEnd d (.mk 2 t 0 []) w) := by
  unfold ShowEnd
  rw [Pl.show_2]
  have hb0 : Below w.heap.size w (w.alloc (.cells #[.int .i64 2, .string (str t), .int .i64 0, .slice ao 0 cp] 24)) := (Below.refl _ _).alloc (Nat.le_refl _) _
  have HB0 := Lib.hid hb0
  have P0 := Lib.hid (Blk4.new (w := w) (a := .int .i64 2) (b := .string (str t)) (c := .int .i64 0) (d := .slice ao 0 cp) rfl)
  have HP := Lib.hid hp
  have hts : (str t).size ≤ 1073741824 := by rw [str_size]; exact ht
  have hts2 : (str (Lib.itoa n)).size ≤ 21 := by rw [str_size]; exact itoa_short n hn1 hn2
  have H := Lib.hid (show Calls Tryd.prog 17 #[.agg #[.int .i64 2, .string (str t), .int .i64 0, .slice ao 0 cp]] _ (MayEnd 8 (.mk 2 t 0 []) _) from refMay8_any (.mk 2 t 0 []) (.slice ao 0 cp) (fun _ => True) (w.alloc (.cells #[.int .i64 2, .string (str t), .int .i64 0, .slice ao 0 cp] 24)) ⟨by simp [R.n]; try omega, by simp [R.n]; try omega, by simp [R.t]; try omega, by simp [R.l]⟩ (.nil _ _))
  unfold MayEnd at H
  rw [hm] at H
  clear hb0 hp hm
  go_enter Tryd.func12, Tryd.ntmps12
  go_wp2_with fail
  ((with_reducible refine H.out.mono ?_); rintro e w1 ⟨rfl, b1⟩)
  have HB1 := Lib.hid (HB0.out.trans (b1.mono HB0.out.size))
  have P1 := Lib.hid (P0.out.later b1)
  obtain ⟨p0, p1, p2, p3⟩ := P1.out.cells
  clear b1
  go_wp2
  rw [show (⟨#[40, 101, 114, 114, 111, 114, 41, 32]⟩ : ByteArray) ++ str t = str ([40, 101, 114, 114, 111, 114, 41, 32] ++ t) from str_app _ _]
  go_ret
  exact ⟨rfl, HB1.out⟩
set_option maxRecDepth 100000 in
set_option maxHeartbeats 3200000 in
theorem rshow_3 (d : Nat) (hd : d ≤ 8) (t : List UInt8) (ht : t.length ≤ 1073741824) (n : Int) (hn1 : -9223372036854775808 ≤ n) (hn2 : n ≤ 9223372036854775807) (ao : Option Addr) (cp : Nat) (w : World) (hp : Pows w) (hm : Pl.mayL 8 (.mk 3 [] n []) = true) :
    Calls Tryd.prog 12 #[.agg #[.int .i64 3, .string (str []), .int .i64 n, .slice ao 0 cp]] w (ShowEnd d (.mk 3 [] n []) w) := by
  unfold ShowEnd
  rw [Pl.show_3]
  have hb0 : Below w.heap.size w (w.alloc (.cells #[.int .i64 3, .string (str []), .int .i64 n, .slice ao 0 cp] 24)) := (Below.refl _ _).alloc (Nat.le_refl _) _
  have HB0 := Lib.hid hb0
  have P0 := Lib.hid (Blk4.new (w := w) (a := .int .i64 3) (b := .string (str [])) (c := .int .i64 n) (d := .slice ao 0 cp) rfl)
  have HP := Lib.hid hp
  have hts : (str t).size ≤ 1073741824 := by rw [str_size]; exact ht
  have hts2 : (str (Lib.itoa n)).size ≤ 21 := by rw [str_size]; exact itoa_short n hn1 hn2
  have H := Lib.hid (show Calls Tryd.prog 17 #[.agg #[.int .i64 3, .string (str []), .int .i64 n, .slice ao 0 cp]] _ (MayEnd 8 (.mk 3 [] n []) _) from refMay8_any (.mk 3 [] n []) (.slice ao 0 cp) (fun _ => True) (w.alloc (.cells #[.int .i64 3, .string (str []), .int .i64 n, .slice ao 0 cp] 24)) ⟨by simp [R.n]; try omega, by simp [R.n]; try omega, by simp [R.t]; try omega, by simp [R.l]⟩ (.nil _ _))
  unfold MayEnd at H
  rw [hm] at H
  clear hb0 hp hm
  go_enter Tryd.func12, Tryd.ntmps12
  go_wp2_with fail
  ((with_reducible refine H.out.mono ?_); rintro e w1 ⟨rfl, b1⟩)
  have HB1 := Lib.hid (HB0.out.trans (b1.mono HB0.out.size))
  have P1 := Lib.hid (P0.out.later b1)
  obtain ⟨p0, p1, p2, p3⟩ := P1.out.cells
  clear b1
  go_wp2_with fail
  ((with_reducible refine (refPrint_any n hn1 hn2 _).mono ?_); rintro e w2 ⟨rfl, b2⟩)
  go_wp2
  rw [show (⟨#[40, 105, 110, 116, 101, 103, 101, 114, 41, 32]⟩ : ByteArray) ++ str (Lib.itoa n) = str ([40, 105, 110, 116, 101, 103, 101, 114, 41, 32] ++ Lib.itoa n) from str_app _ _]
  go_ret
  exact ⟨rfl, HB1.out.trans (b2.mono HB1.out.size)⟩
set_option maxRecDepth 100000 in
set_option maxHeartbeats 3200000 in
theorem rshow_4 (d : Nat) (hd : d ≤ 8) (t : List UInt8) (ht : t.length ≤ 1073741824) (n : Int) (hn1 : -9223372036854775808 ≤ n) (hn2 : n ≤ 9223372036854775807) (ao : Option Addr) (cp : Nat) (w : World) (hp : Pows w) (hm : Pl.mayL 8 (.mk 4 t 0 []) = true) :
    Calls Tryd.prog 12 #[.agg #[.int .i64 4, .string (str t), .int .i64 0, .slice ao 0 cp]] w (ShowEnd d (.mk 4 t 0 []) w) := by
  unfold ShowEnd
  rw [Pl.show_4]
  have hb0 : Below w.heap.size w (w.alloc (.cells #[.int .i64 4, .string (str t), .int .i64 0, .slice ao 0 cp] 24)) := (Below.refl _ _).alloc (Nat.le_refl _) _
  have HB0 := Lib.hid hb0
  have P0 := Lib.hid (Blk4.new (w := w) (a := .int .i64 4) (b := .string (str t)) (c := .int .i64 0) (d := .slice ao 0 cp) rfl)
  have HP := Lib.hid hp
  have hts : (str t).size ≤ 1073741824 := by rw [str_size]; exact ht
  have hts2 : (str (Lib.itoa n)).size ≤ 21 := by rw [str_size]; exact itoa_short n hn1 hn2
  have H := Lib.hid (show Calls Tryd.prog 17 #[.agg #[.int .i64 4, .string (str t), .int .i64 0, .slice ao 0 cp]] _ (MayEnd 8 (.mk 4 t 0 []) _) from refMay8_any (.mk 4 t 0 []) (.slice ao 0 cp) (fun _ => True) (w.alloc (.cells #[.int .i64 4, .string (str t), .int .i64 0, .slice ao 0 cp] 24)) ⟨by simp [R.n]; try omega, by simp [R.n]; try omega, by simp [R.t]; try omega, by simp [R.l]⟩ (.nil _ _))
  unfold MayEnd at H
  rw [hm] at H
  clear hb0 hp hm
  go_enter Tryd.func12, Tryd.ntmps12
  go_wp2_with fail
  ((with_reducible refine H.out.mono ?_); rintro e w1 ⟨rfl, b1⟩)
  have HB1 := Lib.hid (HB0.out.trans (b1.mono HB0.out.size))
  have P1 := Lib.hid (P0.out.later b1)
  obtain ⟨p0, p1, p2, p3⟩ := P1.out.cells
  clear b1
  go_wp2_with fail
  ((with_reducible refine (refQuoted_any (str t) hts _).mono ?_); rintro e w2 ⟨rfl, b2⟩)
  rw [show (str t).data.toList = t by simp [str]]
  go_wp2
  go_ret
  exact ⟨rfl, HB1.out.trans (b2.mono HB1.out.size)⟩
set_option maxRecDepth 100000 in
set_option maxHeartbeats 3200000 in
theorem rshow_5 (d : Nat) (hd : d ≤ 8) (t : List UInt8) (ht : t.length ≤ 1073741824) (n : Int) (hn1 : -9223372036854775808 ≤ n) (hn2 : n ≤ 9223372036854775807) (ao : Option Addr) (cp : Nat) (w : World) (hp : Pows w) (hm : Pl.mayL 8 (.mk 5 [] 0 []) = true) :
    Calls Tryd.prog 12 #[.agg #[.int .i64 5, .string (str []), .int .i64 0, .slice ao 0 cp]] w (ShowEnd d (.mk 5 [] 0 []) w) := by
  unfold ShowEnd
  rw [Pl.show_5]
  have hb0 : Below w.heap.size w (w.alloc (.cells #[.int .i64 5, .string (str []), .int .i64 0, .slice ao 0 cp] 24)) := (Below.refl _ _).alloc (Nat.le_refl _) _
  have HB0 := Lib.hid hb0
  have P0 := Lib.hid (Blk4.new (w := w) (a := .int .i64 5) (b := .string (str [])) (c := .int .i64 0) (d := .slice ao 0 cp) rfl)
  have HP := Lib.hid hp
  have hts : (str t).size ≤ 1073741824 := by rw [str_size]; exact ht
  have hts2 : (str (Lib.itoa n)).size ≤ 21 := by rw [str_size]; exact itoa_short n hn1 hn2
  have H := Lib.hid (show Calls Tryd.prog 17 #[.agg #[.int .i64 5, .string (str []), .int .i64 0, .slice ao 0 cp]] _ (MayEnd 8 (.mk 5 [] 0 []) _) from refMay8_any (.mk 5 [] 0 []) (.slice ao 0 cp) (fun _ => True) (w.alloc (.cells #[.int .i64 5, .string (str []), .int .i64 0, .slice ao 0 cp] 24)) ⟨by simp [R.n]; try omega, by simp [R.n]; try omega, by simp [R.t]; try omega, by simp [R.l]⟩ (.nil _ _))
  unfold MayEnd at H
  rw [hm] at H
  clear hb0 hp hm
  go_enter Tryd.func12, Tryd.ntmps12
  go_wp2_with fail
  ((with_reducible refine H.out.mono ?_); rintro e w1 ⟨rfl, b1⟩)
  have HB1 := Lib.hid (HB0.out.trans (b1.mono HB0.out.size))
  have P1 := Lib.hid (P0.out.later b1)
  obtain ⟨p0, p1, p2, p3⟩ := P1.out.cells
  clear b1
  go_wp2
  go_ret
  exact ⟨rfl, HB1.out⟩
set_option maxRecDepth 100000 in
set_option maxHeartbeats 3200000 in
theorem rshow_7 (d : Nat) (hd : d ≤ 8) (t : List UInt8) (ht : t.length ≤ 1073741824) (n : Int) (hn1 : -9223372036854775808 ≤ n) (hn2 : n ≤ 9223372036854775807) (ao : Option Addr) (cp : Nat) (w : World) (hp : Pows w) (hm : Pl.mayL 8 (.mk 7 [] 0 []) = true) :
    Calls Tryd.prog 12 #[.agg #[.int .i64 7, .string (str []), .int .i64 0, .slice ao 0 cp]] w (ShowEnd d (.mk 7 [] 0 []) w) := by
  unfold ShowEnd
  rw [Pl.show_7]
  have hb0 : Below w.heap.size w (w.alloc (.cells #[.int .i64 7, .string (str []), .int .i64 0, .slice ao 0 cp] 24)) := (Below.refl _ _).alloc (Nat.le_refl _) _
  have HB0 := Lib.hid hb0
  have P0 := Lib.hid (Blk4.new (w := w) (a := .int .i64 7) (b := .string (str [])) (c := .int .i64 0) (d := .slice ao 0 cp) rfl)
  have HP := Lib.hid hp
  have hts : (str t).size ≤ 1073741824 := by rw [str_size]; exact ht
  have hts2 : (str (Lib.itoa n)).size ≤ 21 := by rw [str_size]; exact itoa_short n hn1 hn2
  have H := Lib.hid (show Calls Tryd.prog 17 #[.agg #[.int .i64 7, .string (str []), .int .i64 0, .slice ao 0 cp]] _ (MayEnd 8 (.mk 7 [] 0 []) _) from refMay8_any (.mk 7 [] 0 []) (.slice ao 0 cp) (fun _ => True) (w.alloc (.cells #[.int .i64 7, .string (str []), .int .i64 0, .slice ao 0 cp] 24)) ⟨by simp [R.n]; try omega, by simp [R.n]; try omega, by simp [R.t]; try omega, by simp [R.l]⟩ (.nil _ _))
  unfold MayEnd at H
  rw [hm] at H
  clear hb0 hp hm
  go_enter Tryd.func12, Tryd.ntmps12
  go_wp2_with fail
  ((with_reducible refine H.out.mono ?_); rintro e w1 ⟨rfl, b1⟩)
  have HB1 := Lib.hid (HB0.out.trans (b1.mono HB0.out.size))
  have P1 := Lib.hid (P0.out.later b1)
  obtain ⟨p0, p1, p2, p3⟩ := P1.out.cells
  clear b1
  go_wp2
  go_ret
  exact ⟨rfl, HB1.out⟩
end Go.Proofs.YtpngmbdchceikaaDoor
