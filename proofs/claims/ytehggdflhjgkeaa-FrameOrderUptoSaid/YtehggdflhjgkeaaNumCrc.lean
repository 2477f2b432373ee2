/- The walks of num.steps, num.More, num.Crc and of the reference's. -/
import Derived.Test.YtehggdflhjgkeaaBase
import Derived.Test.YtehggdflhjgkeaaPlainNum
import Derived.Laws.BitsAllLaws
import Derived.Deep.WholeRow
import Derived.Laws.ResultCell
namespace Go.Proofs.Ytehggdflhjgkeaa
open Go.ChangeShapes Go.WideShapes Go.ChangeAt Go.RowKit
set_option linter.unusedVariables false

/-- The table with its first k rows filled. -/
def tab (k : Nat) : Array Value := ((List.range 256).map fun i => if i < k then Value.int .u32 ((Pl.stepN 8 i : Nat) : Int) else .int .u32 0).toArray
theorem tab_size (k : Nat) : (tab k).size = 256 := by simp [tab]
theorem tab_get {k i : Nat} (h : i < k) (hk : k ≤ 256) : (tab k)[i]? = some (.int .u32 ((Pl.stepN 8 i : Nat) : Int)) := by
  simp [tab, show i < 256 by omega, h]
theorem tab_set (k : Nat) (hk : k < 256) : (tab k).setIfInBounds k (.int .u32 ((Pl.stepN 8 k : Nat) : Int)) = tab (k + 1) := by
  apply Array.ext_getElem?
  intro i
  rw [Array.getElem?_setIfInBounds]
  by_cases e : k = i
  · subst e
    simp [tab, hk]
  · rw [if_neg e]
    by_cases hi : i < 256
    · simp only [tab, List.getElem?_toArray, List.getElem?_map, List.getElem?_range hi, Option.map_some]
      by_cases h1 : i < k
      · simp [h1, show i < k + 1 by omega]
      · simp [h1, show ¬ i < k + 1 by omega]
    · simp [tab, hi]
theorem tab_one (k : Nat) : (tab k).all (·.oneCell') = true := by
  rw [Array.all_eq_true_iff_forall_mem]
  intro v hv
  simp only [tab, List.mem_toArray, List.mem_map] at hv
  obtain ⟨i, _, rfl⟩ := hv
  split <;> rfl
theorem tab_old (k : Nat) (hk : k < 256) : ∃ v, (tab k)[k]? = some v := by
  simp [tab, hk]

theorem zero_tab : ∀ w, (zeroValue 64).run Try.prog w = .ok (.agg (tab 0)) w := fun w => by kernel_rfl
theorem size_tab : (Try.prog.info? 64).map (·.size) = some 256 := by kernel_rfl

theorem and_one {r : Nat} (h : r < 4294967296) : bits .and .u32 (r : Int) 1 = ((r % 2 : Nat) : Int) := by
  have := u32_and_nat r 1 h (by omega)
  rw [nat_mask1] at this
  exact this
theorem xor_poly {r : Nat} (h : r < 4294967296) : bits .xor .u32 ((r : Int) / 2) 3988292384 = (((r / 2) ^^^ 3988292384 : Nat) : Int) := by
  have := u32_xor_nat (r / 2) 3988292384 (by omega) (by omega)
  rw [← this]; rfl
theorem step_even {r : Nat} (h : r % 2 = 0) : Pl.step1 r = r / 2 := by unfold Pl.step1; rw [if_neg (by omega)]
theorem step_odd {r : Nat} (h : r % 2 = 1) : Pl.step1 r = (r / 2) ^^^ 3988292384 := by unfold Pl.step1; rw [if_pos h]

theorem wpList_store_row {P : Program} {ops : Array Oper} {rest : List Oper} {o : Oper} {a : Act} {w : World} {Q : Exit → Act → World → Prop} (hgd : o.guard = none) (ty : TypeId) (x y : Operand) (ho : o.op = .store ty x y)
    (g : Nat) (hx : a.eval x = .pointer (some ⟨g, 0, none⟩)) (t : TypeId) (old cells : Array Value) (hy : a.eval y = .agg cells) (hg : w.heap[g]? = some (.cells old t (0, 0)))
    (hi : (P.info? ty).map (·.size) = some cells.size) (hs : old.size = cells.size) (h1 : cells.all (·.oneCell') = true)
    (h : wpList P ops Q rest (a.put o.dst undef) (w.setRow g cells)) : wpList P ops Q (o :: rest) a w := by
  refine wpList_plain hgd fun K hK => ?_
  unfold Oper.wp execOp
  simp only [ho, hx, hy, Instr.storeAt, Instr.sureAddr, Sem.run_bind, Sem.run_pure, Result.andThen_ok, run_storeVar_row w g t ty old cells hg hi hs h1]
  exact hK _ _ h

theorem below_setRow {B : Nat} {a w : World} (h : Below B a w) {g : Nat} (hg : B ≤ g) (cs : Array Value) : Below B a (w.setRow g cs) :=
  h.trans ⟨rfl, rfl, rfl, by simp [World.setRow], fun k hk => by simp [World.setRow, Array.getElem?_modify, show ¬ g = k by omega]⟩

theorem tab_there (w : World) : (((w.alloc (.cells (tab 0) 64)).alloc (.cells (tab 256) 64)).setRow w.heap.size (tab 256)).heap[w.heap.size]? = some (.cells (tab 256) 64 (0, 0)) := by
  have h := heap_alloc2_old w (.cells (tab 0) 64) (.cells (tab 256) 64)
  simp only [World.setRow, Array.getElem?_modify, if_true, h, Option.map_some]

set_option maxRecDepth 100000 in
theorem steps_any (w : World) : Calls Try.prog 36 #[] w fun e w' => e = .returned (.agg (tab 256)) ∧ Below w.heap.size w w' := by
  have hz := zero_tab
  go_enter Try.func36, Try.ntmps36
  go_wp2_with fail
  clear hz
  go_loopw [5] (fun i wr => ∃ k : Nat, k ≤ 256 ∧ i = .int .i64 k ∧ wr = (w.alloc (.cells (tab 0) 64)).alloc (.cells (tab k) 64)) (fun i _ => 256 - (intOf i).toNat)
  case atStart => exact ⟨0, by omega, rfl, rfl⟩
  case round =>
    obtain ⟨k, hk, rfl, rfl⟩ := hrel
    by_cases hlt : k < 256
    · go_wp2_with fail
      go_loop [3, 10] (fun r c => ∃ m q : Nat, m ≤ 8 ∧ c = .int .i64 m ∧ r = .int .u32 q ∧ q ≤ 4294967295 ∧ Hid (q = Pl.stepN m k)) (fun _ c => 8 - (intOf c).toNat)
      case atStart => exact ⟨0, k, by omega, rfl, rfl, by omega, rfl⟩
      case round =>
        obtain ⟨m, q, hm, rfl, rfl, hq, hst⟩ := hrel
        by_cases hm8 : m < 8
        · have ha := and_one (r := q) (by omega)
          have hx := xor_poly (r := q) (by omega)
          rcases Nat.mod_two_eq_zero_or_one q with h2 | h2
          · rw [h2] at ha
            clear hx
            have hs := Lib.hid (step_even h2)
            clear h2
            go_wp2
            go_round
            case rel => exact ⟨m + 1, q / 2, by omega, by go_num, rfl, by omega, by show _ = Pl.step1 _; rw [← hst.out, hs.out]⟩
            case measure => (simp [intOf]; try omega)
          · rw [h2] at ha
            have hs := Lib.hid (step_odd h2)
            clear h2
            have hlt2 := Pl.step1_lt (r := q) (by omega)
            rw [hs.out] at hlt2
            go_wp2
            go_round
            case rel => exact ⟨m + 1, _, by omega, by go_num, rfl, by omega, by show _ = Pl.step1 _; rw [← hst.out, hs.out]⟩
            case measure => (simp [intOf]; try omega)
        · obtain ⟨v0, hv0⟩ := tab_old k hlt
          have hq8 : Hid (q = Pl.stepN 8 k) := by
            have := hst.out
            rwa [show m = 8 by omega] at this
          clear hst
          go_wp2
          go_roundw
          case rel => exact ⟨k + 1, by omega, by go_num, by rw [hq8.out, tab_set k hlt]⟩
          case measure => (simp [intOf]; try omega)
    · obtain rfl : k = 256 := by omega
      have hge : decide ((256 : Int) < 256) = false := by decide
      go_wp2_with (first
        | (refine wpList_load_row rfl 64 (.tmp 1) rfl (w.heap.size + 1) rfl 64 (tab 256) (0, 0) _ (heap_alloc2_new w _ _) Try.underlying64 rfl (by rw [tab_size]; exact size_tab) ?_)
        | (refine wpList_store_row rfl 64 (.tmp 0) (.tmp 25) rfl w.heap.size rfl 64 (tab 0) (tab 256) rfl (heap_alloc2_old w _ _) (by rw [tab_size]; exact size_tab) (by rw [tab_size, tab_size]) (tab_one _) ?_))
      refine bodyPost_ret (v := .agg (tab 256)) (results_cell_row rfl _ _ w.heap.size 64 (tab 256) (0, 0) _ rfl (tab_there w) Try.underlying64 rfl (by rw [tab_size]; exact size_tab)) rfl ⟨rfl, ?_⟩
      exact below_setRow (((Below.refl _ _).alloc (Nat.le_refl _) _).alloc (by simp) _) (Nat.le_refl _) _

/-- The table of the program does to a byte what eight steps do. -/
theorem xor_tab {q c : Nat} (hq : q < 4294967296) (hc : c < 256) : bits .xor .u8 ((q : Int) % 256) (c : Int) = (((q % 256) ^^^ c : Nat) : Int) := by
  have := u8_xor_nat (q % 256) c (by omega) hc
  rw [← this]; rfl
theorem xor_lt256 {q c : Nat} (hc : c < 256) : (q % 256) ^^^ c < 256 := Nat.xor_lt_two_pow (n := 8) (by omega) hc
theorem upd_bits {q c : Nat} (hq : q < 4294967296) (hc : c < 256) : bits .xor .u32 ((Pl.stepN 8 ((q % 256) ^^^ c) : Nat) : Int) ((q : Int) / 256) = ((Pl.upd q c : Nat) : Int) := by
  have h1 := Pl.stepN_lt 8 (r := (q % 256) ^^^ c) (by have := xor_lt256 (q := q) hc; omega)
  have := u32_xor_nat (Pl.stepN 8 ((q % 256) ^^^ c)) (q / 256) h1 (by omega)
  rw [Pl.upd_table] at this
  rw [← this]; rfl

theorem not32_xor {n : Nat} (h : n ≤ 4294967295) : 4294967295 ^^^ n = Pl.not32 n := by
  apply Nat.eq_of_testBit_eq
  intro i
  have e1 : (4294967295 : Nat).testBit i = decide (i < 32) := Nat.testBit_two_pow_sub_one 32 i
  have e2 : (2 ^ 32 - (n + 1)).testBit i = (decide (i < 32) && !n.testBit i) := Nat.testBit_two_pow_sub_succ (by omega) i
  have e3 : Pl.not32 n = 2 ^ 32 - (n + 1) := by unfold Pl.not32; omega
  rw [e3, e2, Nat.testBit_xor, e1]
  by_cases hi : i < 32
  · simp [hi]
  · have : n.testBit i = false := Nat.testBit_lt_two_pow (Nat.lt_of_lt_of_le (show n < 2 ^ 32 by omega) (Nat.pow_le_pow_right (by omega) (by omega)))
    simp [hi, this]
theorem not_bits {n : Nat} (h : n ≤ 4294967295) : bits .xor .u32 IntKind.u32.max (n : Int) = ((Pl.not32 n : Nat) : Int) := by
  have := u32_xor_nat 4294967295 n (by omega) (by omega)
  rw [not32_xor h] at this
  exact this

set_option maxRecDepth 100000 in
theorem more_any (n : Nat) (s : ByteArray) (w : World) (hn : n ≤ 4294967295) (hs : s.size ≤ maxLen) :
    Calls Try.prog 35 #[.int .u32 n, .string s] w fun e w' => e = .returned (.int .u32 (Pl.more n s.data.toList)) ∧ Below w.heap.size w w' := by
  unfold maxLen at hs
  have hz := zero_tab
  have hnot := not_bits hn
  have hnl := Pl.not32_lt n
  go_enter Try.func35, Try.ntmps35
  go_wp2_with fail
  refine (steps_any _).mono ?_
  rintro e w1 ⟨rfl, b1⟩
  go_wp2_with (first
        | (refine wpList_store_row rfl 64 (.tmp 5) (.tmp 8) rfl w1.heap.size rfl 64 (tab 0) (tab 256) rfl (heap_alloc_last _ _) (by rw [tab_size]; exact size_tab) (by rw [tab_size, tab_size]) (tab_one _) ?_))
  have hb : Below w.heap.size w ((w1.alloc (.cells (tab 0) 64)).setRow w1.heap.size (tab 256)) := below_setRow (b1.alloc b1.size _) b1.size _
  have hg : ((w1.alloc (.cells (tab 0) 64)).setRow w1.heap.size (tab 256)).heap[w1.heap.size]? = some (.cells (tab 256) 64 (0, 0)) := by
    simp only [World.setRow, Array.getElem?_modify, if_true, heap_alloc_last, Option.map_some]
  clear hz hnot
  generalize ((w1.alloc (.cells (tab 0) 64)).setRow w1.heap.size (tab 256)) = w2 at hb hg ⊢
  generalize w1.heap.size = g at hg ⊢
  clear b1 w1
  have Hg := Lib.hid hg
  clear hg
  go_loop [6, 13] (fun r i => ∃ j q : Nat, j ≤ s.size ∧ i = .int .i64 j ∧ r = .int .u32 q ∧ q ≤ 4294967295 ∧ Hid (q = Pl.crcL (Pl.not32 n) (s.data.toList.take j))) (fun _ i => s.size - (intOf i).toNat)
  case atStart => exact ⟨0, _, by omega, rfl, rfl, by omega, rfl⟩
  case round =>
    obtain ⟨j, q, hj, rfl, rfl, hq, hst⟩ := hrel
    by_cases hlt : j < s.size
    · have hc := (s[j]).toNat_lt
      have hx := xor_tab (q := q) (c := s[j].toNat) (by omega) hc
      have hl := xor_lt256 (q := q) hc
      have hcell : w2.cell? ⟨g, (q % 256) ^^^ s[j].toNat, none⟩ = some (.int .u32 ((Pl.stepN 8 ((q % 256) ^^^ s[j].toNat) : Nat) : Int)) :=
        (cell_of_row w2 g _ _ _ _ Hg.out).trans (tab_get hl (by omega))
      have hu := upd_bits (q := q) (c := s[j].toNat) (by omega) hc
      have hs2 : Hid (Pl.upd q s[j].toNat = Pl.crcL (Pl.not32 n) (s.data.toList.take (j + 1))) := by
        show _ = _
        rw [take_snoc s j hlt, Pl.crcL_snoc, ← hst.out]
      have hul := Pl.upd_lt (r := q) (c := s[j].toNat) (by omega) hc
      go_wp2
      go_round
      case rel => exact ⟨j + 1, _, by omega, by go_num, rfl, by omega, hs2⟩
      case measure => (simp [intOf]; try omega)
    · have hfin : Hid (Pl.not32 q = Pl.more n s.data.toList) := by
        show _ = _
        rw [hst.out, show j = s.size by omega, take_all]; rfl
      have hnot := not_bits hq
      clear hst
      go_wp2
      go_ret
      exact ⟨by rw [← hfin.out]; rfl, hb⟩

theorem crc_any (s : ByteArray) (w : World) (hs : s.size ≤ maxLen) :
    Calls Try.prog 30 #[.string s] w fun e w' => e = .returned (.int .u32 (Pl.crc s.data.toList)) ∧ Below w.heap.size w w' := by
  go_enter Try.func30, Try.ntmps30
  go_wp2_with fail
  refine (more_any 0 s _ (by omega) hs).mono ?_
  rintro e w1 ⟨rfl, b1⟩
  go_wp2
  go_ret
  exact ⟨rfl, b1⟩

/-! The reference. -/
theorem xor_byte {q : Nat} (c : UInt8) (hq : q ≤ 4294967295) : bits .xor .u32 (q : Int) ((c.toNat : Int) % 4294967296) = ((q ^^^ c.toNat : Nat) : Int) := by
  have := c.toNat_lt
  rw [show ((c.toNat : Int) % 4294967296) = (c.toNat : Int) from by omega]
  exact u32_xor_nat q c.toNat (by omega) (by omega)
theorem xor_byte_lt {q : Nat} (c : UInt8) (hq : q ≤ 4294967295) : q ^^^ c.toNat < 4294967296 :=
  Nat.xor_lt_two_pow (n := 32) (by omega) (by have := c.toNat_lt; omega)

set_option maxRecDepth 100000 in
theorem refMore_any (n : Nat) (s : ByteArray) (w : World) (hn : n ≤ 4294967295) (hs : s.size ≤ maxLen) :
    Calls Try.prog 32 #[.int .u32 n, .string s] w fun e w' => e = .returned (.int .u32 (Pl.more n s.data.toList)) ∧ w = w' := by
  unfold maxLen at hs
  have hnot := not_bits hn
  have hnl := Pl.not32_lt n
  go_enter Try.func32, Try.ntmps32
  go_wp2_with fail
  clear hnot
  go_loop [5, 6] (fun r i => ∃ j q : Nat, j ≤ s.size ∧ i = .int .i64 j ∧ r = .int .u32 q ∧ q ≤ 4294967295 ∧ Hid (q = Pl.crcL (Pl.not32 n) (s.data.toList.take j))) (fun _ i => s.size - (intOf i).toNat)
  case atStart => exact ⟨0, _, by omega, rfl, rfl, by omega, rfl⟩
  case round =>
    obtain ⟨j, q, hj, rfl, rfl, hq, hst⟩ := hrel
    by_cases hlt : j < s.size
    · have hx := xor_byte s[j] hq
      have hxl := xor_byte_lt s[j] hq
      have hs2 : Hid (Pl.stepN 8 (q ^^^ s[j].toNat) = Pl.crcL (Pl.not32 n) (s.data.toList.take (j + 1))) := by
        show _ = _
        rw [take_snoc s j hlt, Pl.crcL_snoc, ← hst.out]; rfl
      clear hst
      go_wp2_with fail
      clear hx
      generalize q ^^^ s[j].toNat = x at hxl hs2 ⊢
      go_loop [5, 7] (fun r c => ∃ m y : Nat, m ≤ 8 ∧ c = .int .i64 m ∧ r = .int .u32 y ∧ y ≤ 4294967295 ∧ Hid (y = Pl.stepN m x)) (fun _ c => 8 - (intOf c).toNat)
      case atStart => exact ⟨0, x, by omega, rfl, rfl, by omega, rfl⟩
      case round =>
        obtain ⟨m, y, hm, rfl, rfl, hy, hst⟩ := hrel
        by_cases hm8 : m < 8
        · rcases Nat.mod_two_eq_zero_or_one y with h2 | h2
          · have hs := Lib.hid (step_even h2)
            have ht : ((y : Int) % 2 == 1) = false := by rw [beq_eq_false_iff_ne]; omega
            clear h2
            go_wp2
            go_round
            case rel => exact ⟨m + 1, y / 2, by omega, by go_num, rfl, by omega, by show _ = Pl.step1 _; rw [← hst.out, hs.out]⟩
            case measure => (simp [intOf]; try omega)
          · have hx := xor_poly (r := y) (by omega)
            have hs := Lib.hid (step_odd h2)
            have ht : ((y : Int) % 2 == 1) = true := by rw [beq_iff_eq]; omega
            clear h2
            have hlt2 := Pl.step1_lt (r := y) (by omega)
            rw [hs.out] at hlt2
            go_wp2
            go_round
            case rel => exact ⟨m + 1, _, by omega, by go_num, rfl, by omega, by show _ = Pl.step1 _; rw [← hst.out, hs.out]⟩
            case measure => (simp [intOf]; try omega)
        · have h8 : Hid (y = Pl.crcL (Pl.not32 n) (s.data.toList.take (j + 1))) := by
            show _ = _
            rw [← hs2.out, hst.out, show m = 8 by omega]
          clear hst
          go_wp2
          go_round
          case rel => exact ⟨j + 1, y, by omega, by go_num, rfl, by omega, h8⟩
          case measure => (simp [intOf]; try omega)
    · have hfin : Hid (Pl.not32 q = Pl.more n s.data.toList) := by
        show _ = _
        rw [hst.out, show j = s.size by omega, take_all]; rfl
      have hnot := not_bits hq
      clear hst
      go_wp2
      go_ret
      exact ⟨by rw [← hfin.out]; rfl, rfl⟩

theorem refCrc_any (s : ByteArray) (w : World) (hs : s.size ≤ maxLen) :
    Calls Try.prog 26 #[.string s] w fun e w' => e = .returned (.int .u32 (Pl.crc s.data.toList)) ∧ w = w' := by
  go_enter Try.func26, Try.ntmps26
  go_wp2_with fail
  refine (refMore_any 0 s _ (by omega) hs).mono ?_
  rintro e w1 ⟨rfl, rfl⟩
  go_wp2
  go_ret
  exact ⟨rfl, rfl⟩

end Go.Proofs.Ytehggdflhjgkeaa
