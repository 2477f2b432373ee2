/- The walks of the small functions of package frame and of its reference; of Encode and of Head. Boxes: a struct of two cells that a call laid for itself, read whole and handed back. The walks of Decode: what is handed back. -/
import Derived.Test.YtfbjmhipjfjaeaaGreatDoorM08
import Derived.Test.YtfbjmhipjfjaeaaGreatDoorM07
import Derived.Deep.RegionHeld3
import Derived.Test.YtfbjmhipjfjaeaaGreatDoorM01
import Derived.Laws.Rows
import Derived.Lib.Strings
import Derived.IntWalk
namespace Go.Proofs.YtfbjmhipjfjaeaaGreatDoor
open Go.ChangeShapes Go.WideShapes Go.ChangeAt Go.RowKit
set_option linter.unusedVariables false

theorem fixS8 {n : Nat} (h : n ≤ 18446744073709551615) : fixS n 8 = Pl.fixL n 8 := (fix_yes (n := n) (width := 8) ⟨by omega, by omega, pow8 h (by decide)⟩).1
theorem fixS4 {n : Nat} (h : n < 4294967296) : fixS n 4 = Pl.fixL n 4 := (fix_yes (n := n) (width := 4) ⟨by omega, by omega, Nat.div_eq_of_lt h⟩).1

/-- Texts that the walk does not look into. -/
def fix8S (n : Nat) : ByteArray := str (Pl.fixL n 8)
def fix4S (n : Nat) : ByteArray := str (Pl.fixL n 4)
def crcS (s : ByteArray) : Nat := Pl.crc s.data.toList
theorem crcS_lt (s : ByteArray) : crcS s < 4294967296 := Pl.crc_lt _
def sumS (s : ByteArray) : ByteArray := fix4S (crcS s)
theorem fix8S_size (n : Nat) : (fix8S n).size = 8 := by unfold fix8S; rw [str_size, Pl.fixL_length]
theorem fix4S_size (n : Nat) : (fix4S n).size = 4 := by unfold fix4S; rw [str_size, Pl.fixL_length]
theorem sumS_size (s : ByteArray) : (sumS s).size = 4 := fix4S_size _
theorem size_ten : (⟨#[10]⟩ : ByteArray).size = 1 := rfl
theorem fix8S_list (n : Nat) : (fix8S n).data.toList = Pl.fixL n 8 := rfl
theorem fix4S_list (n : Nat) : (fix4S n).data.toList = Pl.fixL n 4 := rfl
theorem sumS_list (s : ByteArray) : (sumS s).data.toList = Pl.fixL (Pl.crc s.data.toList) 4 := rfl

section
variable {w0 wc : World}
theorem frFix8 (n : Nat) (hn : n ≤ 18446744073709551615) (hb : Below w0.heap.size w0 wc) :
    Calls Tryz.prog 74 #[.int .u64 n, .int .i64 8] wc fun e w' => e = .returned (.string (fix8S n)) ∧ Below w0.heap.size w0 w' := by
  go_enter Tryz.func74, Tryz.ntmps74
  go_wp2_with fail
  refine (numFix_any n 8 _ hn).mono ?_
  rintro e w1 ⟨rfl, b1⟩
  rw [fixS8 hn, show str (Pl.fixL n 8) = fix8S n from rfl]
  go_wp2
  go_ret
  exact ⟨rfl, hb.trans (b1.mono hb.size)⟩
theorem frFix4 (n : Nat) (hn : n < 4294967296) (hb : Below w0.heap.size w0 wc) :
    Calls Tryz.prog 74 #[.int .u64 n, .int .i64 4] wc fun e w' => e = .returned (.string (fix4S n)) ∧ Below w0.heap.size w0 w' := by
  go_enter Tryz.func74, Tryz.ntmps74
  go_wp2_with fail
  refine (numFix_any n 4 _ (by omega)).mono ?_
  rintro e w1 ⟨rfl, b1⟩
  rw [fixS4 hn, show str (Pl.fixL n 4) = fix4S n from rfl]
  go_wp2
  go_ret
  exact ⟨rfl, hb.trans (b1.mono hb.size)⟩
theorem reFix8 (n : Nat) (hn : n ≤ 18446744073709551615) (hb : Below w0.heap.size w0 wc) :
    Calls Tryz.prog 55 #[.int .u64 n, .int .i64 8] wc fun e w' => e = .returned (.string (fix8S n)) ∧ Below w0.heap.size w0 w' := by
  go_enter Tryz.func55, Tryz.ntmps55
  go_wp2_with fail
  refine (refFix_any n 8 _ hn).mono ?_
  rintro e w1 ⟨rfl, b1⟩
  rw [fixS8 hn, show str (Pl.fixL n 8) = fix8S n from rfl]
  go_wp2
  go_ret
  exact ⟨rfl, hb.trans (b1.mono hb.size)⟩
theorem reFix4 (n : Nat) (hn : n < 4294967296) (hb : Below w0.heap.size w0 wc) :
    Calls Tryz.prog 55 #[.int .u64 n, .int .i64 4] wc fun e w' => e = .returned (.string (fix4S n)) ∧ Below w0.heap.size w0 w' := by
  go_enter Tryz.func55, Tryz.ntmps55
  go_wp2_with fail
  refine (refFix_any n 4 _ (by omega)).mono ?_
  rintro e w1 ⟨rfl, b1⟩
  rw [fixS4 hn, show str (Pl.fixL n 4) = fix4S n from rfl]
  go_wp2
  go_ret
  exact ⟨rfl, hb.trans (b1.mono hb.size)⟩
theorem frSum (s : ByteArray) (hs : s.size ≤ maxLen) (hb : Below w0.heap.size w0 wc) :
    Calls Tryz.prog 78 #[.string s] wc fun e w' => e = .returned (.string (sumS s)) ∧ Below w0.heap.size w0 w' := by
  have hlt := Pl.crc_lt s.data.toList
  go_enter Tryz.func78, Tryz.ntmps78
  go_wp2_with fail
  refine (crc_any s _ hs).mono ?_
  rintro e w1 ⟨rfl, b1⟩
  go_wp2_with fail
  refine (frFix4 _ hlt (hb.trans (b1.mono hb.size))).mono ?_
  rintro e w2 ⟨rfl, b2⟩
  go_wp2
  go_ret
  exact ⟨rfl, b2⟩
theorem frUnfix (s : ByteArray) (hs : s.size ≤ maxLen) (hb : Below w0.heap.size w0 wc) :
    Calls Tryz.prog 85 #[.string s] wc fun e w' => e = .returned (.int .u64 (unfixN s)) ∧ Below w0.heap.size w0 w' := by
  go_enter Tryz.func85, Tryz.ntmps85
  go_wp2_with fail
  refine (numUnfix_any s _ hs).mono ?_
  rintro e w1 ⟨rfl, rfl⟩
  go_wp2
  go_ret
  exact ⟨rfl, hb⟩
theorem reFixSum (s : ByteArray) (hb : Below w0.heap.size w0 wc) :
    Calls Tryz.prog 55 #[.int .u64 (crcS s), .int .i64 4] wc fun e w' => e = .returned (.string (sumS s)) ∧ Below w0.heap.size w0 w' :=
  reFix4 (crcS s) (crcS_lt s) hb
theorem reCrc (s : ByteArray) (hs : s.size ≤ maxLen) (hb : Below w0.heap.size w0 wc) :
    Calls Tryz.prog 56 #[.string s] wc fun e w' => e = .returned (.int .u32 (crcS s)) ∧ Below w0.heap.size w0 w' :=
  (refCrc_any s _ hs).mono fun e w' ⟨h1, h2⟩ => ⟨h1, h2 ▸ hb⟩
end

theorem toList_append (a b : ByteArray) : (a ++ b).data.toList = a.data.toList ++ b.data.toList := by simp
theorem ba_ext {a b : ByteArray} (h : a.data.toList = b.data.toList) : a = b := by
  cases a; cases b
  simpa using h

theorem enc_str (n : Nat) (b : ByteArray) : fix8S b.size ++ fix8S n ++ sumS (fix8S b.size ++ fix8S n) ++ b ++ sumS (fix8S n ++ b) ++ ⟨#[10]⟩ = str (Pl.encL n b.data.toList) := by
  apply ba_ext
  simp only [toList_append, fix8S_list, sumS_list, str_toList, Pl.encL, Pl.front, Pl.tail, len_toList, List.append_assoc]
theorem enc_bad (n : Nat) (b : ByteArray) (hb : b.size ≤ maxLen) (w : World) (h : ((n : Int) == 0) = true ∨ (((n : Int) == 0) = false ∧ 1073741824 < b.size)) :
    Calls Tryz.prog 47 #[.agg #[.int .u64 n, .string b]] w fun e w' => e = .returned (.tuple #[.string (str []), .int .i64 250]) ∧ Below w.heap.size w w' := by
  unfold maxLen at hb
  rcases h with h | ⟨h, h2⟩
  all_goals
    go_enter Tryz.func47, Tryz.ntmps47
    go_wp2
    go_ret2
    exact ⟨rfl, (Below.refl _ _).alloc (Nat.le_refl _) _⟩

theorem enc_ok (n : Nat) (b : ByteArray) (hn : n ≤ 18446744073709551615) (hn0 : ((n : Int) == 0) = false) (hb : b.size ≤ 1073741824) (w : World) :
    Calls Tryz.prog 47 #[.agg #[.int .u64 n, .string b]] w fun e w' => e = .returned (.tuple #[.string (str (Pl.encL n b.data.toList)), .int .i64 0]) ∧ Below w.heap.size w w' := by
  have hF : (fix8S b.size ++ fix8S n).size = 16 := by rw [ByteArray.size_append, fix8S_size, fix8S_size]
  have hB : (fix8S n ++ b).size = 8 + b.size := by rw [ByteArray.size_append, fix8S_size]
  have c0 := fun W => run_string_add_sum (P := Tryz.prog) W (fix8S b.size) (fix8S n) (by rw [fix8S_size, fix8S_size]; omega)
  have c1 := fun W => run_string_add_sum (P := Tryz.prog) W (fix8S b.size ++ fix8S n) (sumS (fix8S b.size ++ fix8S n)) (by rw [hF, sumS_size]; omega)
  have c2 := fun W => run_string_add_sum (P := Tryz.prog) W (fix8S b.size ++ fix8S n ++ sumS (fix8S b.size ++ fix8S n)) b (by rw [ByteArray.size_append, hF, sumS_size]; omega)
  have c3 := fun W => run_string_add_sum (P := Tryz.prog) W (fix8S n) b (by rw [fix8S_size]; omega)
  have c4 := fun W => run_string_add_sum (P := Tryz.prog) W (fix8S b.size ++ fix8S n ++ sumS (fix8S b.size ++ fix8S n) ++ b) (sumS (fix8S n ++ b)) (by rw [ByteArray.size_append, ByteArray.size_append, hF, sumS_size, sumS_size]; omega)
  have c5 := fun W => run_string_add_sum (P := Tryz.prog) W (fix8S b.size ++ fix8S n ++ sumS (fix8S b.size ++ fix8S n) ++ b ++ sumS (fix8S n ++ b)) ⟨#[10]⟩ (by rw [ByteArray.size_append, ByteArray.size_append, ByteArray.size_append, hF, sumS_size, sumS_size, size_ten]; omega)
  have mF : (fix8S b.size ++ fix8S n).size ≤ maxLen := by rw [hF]; simp [maxLen]
  have mB : (fix8S n ++ b).size ≤ maxLen := by rw [hB]; unfold maxLen; omega
  clear hF hB
  go_enter Tryz.func47, Tryz.ntmps47
  go_wp2_with fail
  have hc0 : (w.alloc (.cells #[.int .u64 n, .string b] 44)).cell? ⟨w.heap.size, 0, none⟩ = some (.int .u64 n) := World.cell?_alloc_mark _ _ _ _ _
  have hc1 : (w.alloc (.cells #[.int .u64 n, .string b] 44)).cell? ⟨w.heap.size, 1, none⟩ = some (.string b) := World.cell?_alloc_mark _ _ _ _ _
  have hw : Below w.heap.size w (w.alloc (.cells #[.int .u64 n, .string b] 44)) := (Below.refl _ _).alloc (Nat.le_refl _) _
  have hlt : w.heap.size < (w.alloc (.cells #[.int .u64 n, .string b] 44)).heap.size := by simp
  generalize (w.alloc (.cells #[.int .u64 n, .string b] 44)) = wb at hc0 hc1 hw hlt ⊢
  have k1 : ∀ W, Below wb.heap.size wb W → W.cell? ⟨w.heap.size, 1, none⟩ = some (.string b) := fun W h => (h.cell hlt).trans hc1
  refine (frFix8 n hn (Below.refl _ _)).mono ?_
  rintro e w1 ⟨rfl, b1⟩
  go_wp2_with fail
  refine (frFix8 b.size (by omega) b1).mono ?_
  rintro e w2 ⟨rfl, b2⟩
  go_wp2_with fail
  go_region_held3 (fun w' => Below wb.heap.size wb w' ∧ w'.cell? ⟨w.heap.size, 1, none⟩ = some (.string b)) (first | exact ⟨by first | assumption | exact Below.drew ‹_›, k1 _ (by first | assumption | exact Below.drew ‹_›)⟩)
    (first | (go_at_call 78; refine (frSum (w0 := wb) _ (by first | exact mF | exact mB) (by first | assumption | exact Below.drew ‹_›)).mono ?_; rintro e wx ⟨rfl, bx⟩))
  go_wp2
  go_ret2
  exact ⟨by rw [enc_str]; rfl, hw.trans (bx.mono hw.size)⟩
theorem refEnc_bad (n : Nat) (b : ByteArray) (hb : b.size ≤ maxLen) (w : World) (h : ((n : Int) == 0) = true ∨ (((n : Int) == 0) = false ∧ 1073741824 < b.size)) :
    Calls Tryz.prog 19 #[.agg #[.int .u64 n, .string b]] w fun e w' => e = .returned (.tuple #[.string (str []), .int .i64 250]) ∧ Below w.heap.size w w' := by
  unfold maxLen at hb
  rcases h with h | ⟨h, h2⟩
  all_goals
    go_enter Tryz.func19, Tryz.ntmps19
    go_wp2
    go_ret2
    exact ⟨rfl, (Below.refl _ _).alloc (Nat.le_refl _) _⟩

theorem refEnc_ok (n : Nat) (b : ByteArray) (hn : n ≤ 18446744073709551615) (hn0 : ((n : Int) == 0) = false) (hb : b.size ≤ 1073741824) (w : World) :
    Calls Tryz.prog 19 #[.agg #[.int .u64 n, .string b]] w fun e w' => e = .returned (.tuple #[.string (str (Pl.encL n b.data.toList)), .int .i64 0]) ∧ Below w.heap.size w w' := by
  have hF : (fix8S b.size ++ fix8S n).size = 16 := by rw [ByteArray.size_append, fix8S_size, fix8S_size]
  have hB : (fix8S n ++ b).size = 8 + b.size := by rw [ByteArray.size_append, fix8S_size]
  have c0 := fun W => run_string_add_sum (P := Tryz.prog) W (fix8S b.size) (fix8S n) (by rw [fix8S_size, fix8S_size]; omega)
  have c1 := fun W => run_string_add_sum (P := Tryz.prog) W (fix8S b.size ++ fix8S n) (sumS (fix8S b.size ++ fix8S n)) (by rw [hF, sumS_size]; omega)
  have c2 := fun W => run_string_add_sum (P := Tryz.prog) W (fix8S b.size ++ fix8S n ++ sumS (fix8S b.size ++ fix8S n)) b (by rw [ByteArray.size_append, hF, sumS_size]; omega)
  have c3 := fun W => run_string_add_sum (P := Tryz.prog) W (fix8S n) b (by rw [fix8S_size]; omega)
  have c4 := fun W => run_string_add_sum (P := Tryz.prog) W (fix8S b.size ++ fix8S n ++ sumS (fix8S b.size ++ fix8S n) ++ b) (sumS (fix8S n ++ b)) (by rw [ByteArray.size_append, ByteArray.size_append, hF, sumS_size, sumS_size]; omega)
  have c5 := fun W => run_string_add_sum (P := Tryz.prog) W (fix8S b.size ++ fix8S n ++ sumS (fix8S b.size ++ fix8S n) ++ b ++ sumS (fix8S n ++ b)) ⟨#[10]⟩ (by rw [ByteArray.size_append, ByteArray.size_append, ByteArray.size_append, hF, sumS_size, sumS_size, size_ten]; omega)
  have mF : (fix8S b.size ++ fix8S n).size ≤ maxLen := by rw [hF]; simp [maxLen]
  have mB : (fix8S n ++ b).size ≤ maxLen := by rw [hB]; unfold maxLen; omega
  have l1 := crcS_lt (fix8S b.size ++ fix8S n)
  have l2 := crcS_lt (fix8S n ++ b)
  have v1 : IntKind.u64.wrap ((crcS (fix8S b.size ++ fix8S n) : Nat) : Int) = (crcS (fix8S b.size ++ fix8S n) : Nat) := wrap_u64_of (by omega) (by omega)
  have v2 : IntKind.u64.wrap ((crcS (fix8S n ++ b) : Nat) : Int) = (crcS (fix8S n ++ b) : Nat) := wrap_u64_of (by omega) (by omega)
  clear l1 l2
  clear hF hB
  go_enter Tryz.func19, Tryz.ntmps19
  go_wp2_with fail
  have hc0 : (w.alloc (.cells #[.int .u64 n, .string b] 44)).cell? ⟨w.heap.size, 0, none⟩ = some (.int .u64 n) := World.cell?_alloc_mark _ _ _ _ _
  have hc1 : (w.alloc (.cells #[.int .u64 n, .string b] 44)).cell? ⟨w.heap.size, 1, none⟩ = some (.string b) := World.cell?_alloc_mark _ _ _ _ _
  have hw : Below w.heap.size w (w.alloc (.cells #[.int .u64 n, .string b] 44)) := (Below.refl _ _).alloc (Nat.le_refl _) _
  have hlt : w.heap.size < (w.alloc (.cells #[.int .u64 n, .string b] 44)).heap.size := by simp
  generalize (w.alloc (.cells #[.int .u64 n, .string b] 44)) = wb at hc0 hc1 hw hlt ⊢
  have k1 : ∀ W, Below wb.heap.size wb W → W.cell? ⟨w.heap.size, 1, none⟩ = some (.string b) := fun W h => (h.cell hlt).trans hc1
  refine (reFix8 n hn (Below.refl _ _)).mono ?_
  rintro e w1 ⟨rfl, b1⟩
  go_wp2_with fail
  refine (reFix8 b.size (by omega) b1).mono ?_
  rintro e w2 ⟨rfl, b2⟩
  go_wp2_with fail
  go_region_held3 (fun w' => Below wb.heap.size wb w' ∧ w'.cell? ⟨w.heap.size, 1, none⟩ = some (.string b)) (first | exact ⟨by first | assumption | exact Below.drew ‹_›, k1 _ (by first | assumption | exact Below.drew ‹_›)⟩)
    (first
    | (go_at_call 56; refine (reCrc (w0 := wb) _ (by first | exact mF | exact mB) (by first | assumption | exact Below.drew ‹_›)).mono ?_; rintro e wx ⟨rfl, bx⟩)
    | (go_at_call 55; refine (reFixSum (w0 := wb) _ (by first | assumption | exact Below.drew ‹_›)).mono ?_; rintro e wx ⟨rfl, bx⟩))
  go_wp2
  go_ret2
  exact ⟨by rw [enc_str]; rfl, hw.trans (bx.mono hw.size)⟩

end Go.Proofs.YtfbjmhipjfjaeaaGreatDoor

namespace Go.Proofs.YtfbjmhipjfjaeaaGreatDoor
open Go.ChangeShapes Go.WideShapes Go.ChangeAt Go.RowKit
set_option linter.unusedVariables false

/-- A box of two cells that the call laid first: what is known of it in every later world. -/
theorem box2 (w : World) (a b : Value) (t : TypeId) : ∃ wb, w.alloc (.cells #[a, b] t) = wb ∧ Below w.heap.size w wb ∧ w.heap.size < wb.heap.size ∧
    (∀ W, Below wb.heap.size wb W → W.cell? ⟨w.heap.size, 0, none⟩ = some a) ∧ (∀ W, Below wb.heap.size wb W → W.cell? ⟨w.heap.size, 1, none⟩ = some b) ∧
    (∀ W, Below wb.heap.size wb W → W.frozen? ⟨w.heap.size, 0, none⟩ = false) ∧ (∀ W, Below wb.heap.size wb W → W.frozen? ⟨w.heap.size, 1, none⟩ = false) := by
  have hlt : w.heap.size < (w.alloc (.cells #[a, b] t)).heap.size := by simp
  exact ⟨_, rfl, (Below.refl _ _).alloc (Nat.le_refl _) _, hlt, fun W h => (h.cell hlt).trans (World.cell?_alloc_mark _ _ _ _ _), fun W h => (h.cell hlt).trans (World.cell?_alloc_mark _ _ _ _ _),
    fun W h => (h.frozen hlt).trans (World.frozen?_alloc_new _ _ _ _), fun W h => (h.frozen hlt).trans (World.frozen?_alloc_new _ _ _ _)⟩

section
variable {P : Program}
theorem run_loadVar_two (w : World) (g : Nat) (ty : TypeId) (x y : Value) (fs : Array Field) (hu : P.underlying ty = some (.struct fs)) (hi : (P.info? ty).map (·.size) = some 2)
    (h0 : w.cell? ⟨g, 0, none⟩ = some x) (h1 : w.cell? ⟨g, 1, none⟩ = some y) : (loadVar ty ⟨g, 0, none⟩).run P w = .ok (.agg #[x, y]) w := by
  have hl : (loadCells ⟨g, 0, none⟩ 2).run P w = .ok #[x, y] w :=
    run_loadCells_list (P := P) w ⟨g, 0, none⟩ [x, y] (fun j v hv => by
      have hadd : (⟨g, 0, none⟩ : Addr).add j = ⟨g, j, none⟩ := by unfold Addr.add; split <;> simp_all
      rw [hadd]
      rcases j with _ | _ | j
      · simp at hv; subst hv; exact h0
      · simp at hv; subst hv; exact h1
      · simp at hv)
  cases hq : P.info? ty with
  | none => simp [hq] at hi
  | some i =>
    have hs : i.size = 2 := by simpa [hq] using hi
    have hagg : (isAgg ty).run P w = .ok true w := by
      unfold isAgg
      rw [Sem.run_bind, run_underlying hu w]
      simp
    simp [loadVar, Sem.run_bind, hagg, sizeOf, typeInfo, hq, hs, hl]

theorem results_cell_tmp_tmp {fn : Func} {p u v : Tmp} {ty : TypeId} (h : fn.results = #[.cell p ty, .tmp u, .tmp v]) (tmps : Array Value) (w : World) (g : Nat) (val : Value)
    (hp : tmps.getD p undef = .pointer (some ⟨g, 0, none⟩)) (hl : (loadVar ty ⟨g, 0, none⟩).run P w = .ok val w) :
    (results fn tmps).run P w = .ok (.tuple #[val, tmps.getD u undef, tmps.getD v undef]) w := by
  have hp' : tmps[p]?.getD undef = .pointer (some ⟨g, 0, none⟩) := by simpa using hp
  simp [results, h, hp', asAddr, hl]
end
end Go.Proofs.YtfbjmhipjfjaeaaGreatDoor

namespace Go.Proofs.YtfbjmhipjfjaeaaGreatDoor
open Go.ChangeShapes Go.WideShapes Go.ChangeAt Go.RowKit
set_option linter.unusedVariables false

/-- What a reader hands back, as a value. -/
def gotV (g : Pl.Got) : Value := .tuple #[.agg #[.int .u64 g.num, .string (str g.body)], .int .i64 g.used, .int .i64 g.err]
theorem gotV_good (s : ByteArray) (n m : Nat) : Value.tuple #[.agg #[.int .u64 m, .string (s.extract 20 (20 + n))], .int .i64 (20 + (n : Int) + 5), .int .i64 0] = gotV ⟨m, (s.extract 20 (20 + n)).data.toList, 25 + n, 0⟩ := by
  unfold gotV
  rw [str_of, show ((25 + n : Nat) : Int) = 20 + (n : Int) + 5 from by omega]
  rfl
theorem groupInfo : (Tryz.prog.info? 44).map (·.size) = some 2 := by kernel_rfl
/-- The end of a reader: the box read whole. -/
theorem dec_end {W : World} {x y : Value} {tmps : Array Value} {n : Nat} {fn : Func} (hr : fn.results = #[.cell 2 44, .tmp 3, .tmp 4]) (hp : tmps.getD 2 undef = .pointer (some ⟨n, 0, none⟩))
    (h0 : W.cell? ⟨n, 0, none⟩ = some x) (h1 : W.cell? ⟨n, 1, none⟩ = some y) :
    (results fn tmps).run Tryz.prog W = .ok (.tuple #[.agg #[x, y], tmps.getD 3 undef, tmps.getD 4 undef]) W :=
  results_cell_tmp_tmp hr tmps W n _ hp (run_loadVar_two W n 44 x y _ Tryz.underlying44 groupInfo h0 h1)

end Go.Proofs.YtfbjmhipjfjaeaaGreatDoor
