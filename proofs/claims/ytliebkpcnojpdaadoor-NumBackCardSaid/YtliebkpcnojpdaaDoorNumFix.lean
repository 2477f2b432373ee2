/- The walks of num.Fix and of the reference's. -/
import Derived.Test.YtliebkpcnojpdaaDoorBase
import Derived.Test.YtliebkpcnojpdaaDoorPlainNum
namespace Go.Proofs.YtliebkpcnojpdaaDoor
open Go.ChangeShapes Go.WideShapes Go.ChangeAt Go.RowKit
set_option linter.unusedVariables false

open Pl (fixL fixL_succ fixL_length div_step)

theorem u8info : (Tryd.prog.info? 5).map (fun i => (i.zero, i.size, i.bytes)) = some (some (.int .u8 0), 1, 1) := by kernel_rfl

theorem numFix_low (n width : Int) (w : World) (h : width < 1) :
    Calls Tryd.prog 10 #[.int .u64 n, .int .i64 width] w fun e w' => e = .returned (.tuple #[.string (str []), .int .i64 12]) ∧ w = w' := by
  go_enter Tryd.func10, Tryd.ntmps10
  go_wp2
  go_ret2
  exact ⟨rfl, rfl⟩

theorem numFix_high (n width : Int) (w : World) (h : 8 < width) :
    Calls Tryd.prog 10 #[.int .u64 n, .int .i64 width] w fun e w' => e = .returned (.tuple #[.string (str []), .int .i64 12]) ∧ w = w' := by
  go_enter Tryd.func10, Tryd.ntmps10
  go_wp2
  go_ret2
  exact ⟨rfl, rfl⟩

theorem numFix_not (n k : Nat) (w : World) (h1 : 1 ≤ k) (h : k < 8) (hn2 : n ≤ 18446744073709551615) (hs : ((n : Int) / 2 ^ (8 * k) != 0) = true) :
    Calls Tryd.prog 10 #[.int .u64 n, .int .i64 k] w fun e w' => e = .returned (.tuple #[.string (str []), .int .i64 12]) ∧ w = w' := by
  go_enter Tryd.func10, Tryd.ntmps10
  go_wp2
  go_ret2
  exact ⟨rfl, rfl⟩

def FixRow (n k B j : Nat) (wr : World) : Prop :=
  wr.rowIs B 5 k (fun q => if q < j then .int .u8 ((UInt8.ofNat (n / 2 ^ (8 * q))).toNat : Int) else .int .u8 0)

theorem FixRow.step {n k B j : Nat} {wr : World} (h : FixRow n k B j wr) : FixRow n k B (j + 1) (wr.setCell ⟨B, j, none⟩ (.int .u8 ((n : Int) / 2 ^ (8 * j) % 256))) := by
  have h2 := World.rowIs.set h j (.int .u8 ((n : Int) / 2 ^ (8 * j) % 256))
  refine World.rowIs.congr h2 fun i _ => ?_
  by_cases e : i = j
  · subst e
    simp only [if_true, Nat.lt_succ_self]
    congr 1
  · simp only [if_neg e]
    by_cases hl : i < j
    · rw [if_pos hl, if_pos (by omega)]
    · rw [if_neg hl, if_neg (by omega)]

theorem numFix_ok (n k : Nat) (w : World) (h1 : 1 ≤ k) (h : k ≤ 8) (hn2 : n ≤ 18446744073709551615) (hs : k < 8 → ((n : Int) / 2 ^ (8 * k) != 0) = false) :
    Calls Tryd.prog 10 #[.int .u64 n, .int .i64 k] w fun e w' => e = .returned (.tuple #[.string (str (fixL n k)), .int .i64 0]) ∧ Below w.heap.size w w' := by
  have hmk := fun kl kc W => run_make_row' (P := Tryd.prog) 36 5 (.int .u8 0) 1 Tryd.underlying36 u8info rfl kl kc k (by omega) (by omega) W
  have hk8 : (decide ((k : Int) < 8) = true ∧ ((n : Int) / 2 ^ (8 * k) != 0) = false) ∨ (decide ((k : Int) < 8) = false) := by
    by_cases hk : k < 8
    · exact .inl ⟨decide_eq_true (by omega), hs hk⟩
    · exact .inr (decide_eq_false (by omega))
  clear hs
  rcases hk8 with ⟨hk, hs⟩ | hk
  all_goals
    go_enter Tryd.func10, Tryd.ntmps10
    go_wp2_with fail
    clear hmk
    go_loopw [28] (fun i wr => ∃ j : Nat, j ≤ k ∧ i = .int .i64 j ∧ Below w.heap.size w wr ∧ FixRow n k w.heap.size j wr) (fun i _ => k - (intOf i).toNat)
    case atStart =>
      exact ⟨0, by omega, rfl, (Below.refl _ _).alloc (Nat.le_refl _) _, (World.rowIs_made w (.int .u8 0) k _).congr fun i _ => by simp⟩
    case round =>
      obtain ⟨j, hj, rfl, hb, hrow⟩ := hrel
      by_cases hlt : j < k
      · have hc := World.rowIs.cell hrow hlt
        have hf := World.rowIs.frozen hrow j
        simp only [Nat.lt_irrefl, if_false] at hc
        go_wp2
        go_roundw
        case rel => exact ⟨j + 1, by omega, by go_num, hb.setCell (Nat.le_refl _) _, hrow.step⟩
        case measure => simp [intOf]; omega
      · have hrow' := World.rowIs.congr hrow (g := fun q => .int .u8 ((UInt8.ofNat (n / 2 ^ (8 * q))).toNat : Int)) (fun i hi => by rw [if_pos (by omega)])
        have hcv := rowBytes_string 36 5 Tryd.underlying36 Tryd.underlying5 hrow' k Tryd.underlying9
        clear hrow hrow'
        go_wp2
        go_ret2
        exact ⟨rfl, hb⟩

/-! The reference. -/
def bytesV (l : List UInt8) : List Value := l.map fun b => .int .u8 (b.toNat : Int)

theorem own_string {P : Program} {w : World} (src e : TypeId) (hs : P.underlying src = some (.slice e)) (he : P.underlying e = some (.int .u8)) {base : Nat} {v : Value} {l : List UInt8} {n : Nat} (hl : n = l.length)
    (h : w.ownsRow base e 1 v n (bytesV l)) {dst : TypeId} (hd : P.underlying dst = some .string) :
    (convert src dst v).run P w = .ok (.string (str l)) w := by
  subst hl
  rcases h.2 with ⟨rfl, hx⟩ | ⟨g, cap, cur, rfl, _⟩
  · have : l = [] := by simpa [bytesV] using hx
    subst this
    rw [run_convert_bytes_string w src dst e _ _ _ hs he hd]
    simp [Conv.bytesToString]; rfl
  · refine run_convert_bytes_back (P := P) w src dst e ⟨g, 0, none⟩ cap l hs he hd fun j hj => ?_
    exact h.cells (g := g) rfl j _ (by simp [bytesV, hj])

theorem bytesV_snoc (l : List UInt8) (b : UInt8) : bytesV (l ++ [b]) = bytesV l ++ [.int .u8 (b.toNat : Int)] := by simp [bytesV]

/-- What both tell: the bytes, and the error's number. -/
def fixOk (n : Nat) (width : Int) : Bool := decide (1 ≤ width ∧ width ≤ 8 ∧ n / 2 ^ (8 * width.toNat) = 0)
def fixS (n : Nat) (width : Int) : List UInt8 := if fixOk n width then fixL n width.toNat else []
def fixE (n : Nat) (width : Int) : Int := if fixOk n width then 0 else 12

theorem fix_no {n : Nat} {width : Int} (h : ¬ (1 ≤ width ∧ width ≤ 8 ∧ n / 2 ^ (8 * width.toNat) = 0)) : fixS n width = [] ∧ fixE n width = 12 := by
  have : fixOk n width = false := decide_eq_false h
  simp [fixS, fixE, this]
theorem fix_yes {n : Nat} {width : Int} (h : 1 ≤ width ∧ width ≤ 8 ∧ n / 2 ^ (8 * width.toNat) = 0) : fixS n width = fixL n width.toNat ∧ fixE n width = 0 := by
  have : fixOk n width = true := decide_eq_true h
  simp [fixS, fixE, this]
theorem pow8 {n k : Nat} (hn : n ≤ 18446744073709551615) (hk : ¬ k < 8) : n / 2 ^ (8 * k) = 0 := by
  apply Nat.div_eq_of_lt
  have : 2 ^ 64 ≤ 2 ^ (8 * k) := Nat.pow_le_pow_right (by omega) (by omega)
  omega

theorem numFix_any (n : Nat) (width : Int) (w : World) (hn : n ≤ 18446744073709551615) :
    Calls Tryd.prog 10 #[.int .u64 n, .int .i64 width] w fun e w' => e = .returned (.tuple #[.string (str (fixS n width)), .int .i64 (fixE n width)]) ∧ Below w.heap.size w w' := by
  by_cases hl : width < 1
  · obtain ⟨e1, e2⟩ := fix_no (n := n) (width := width) (by omega)
    rw [e1, e2]
    exact (numFix_low n width w hl).mono fun e w' ⟨h1, h2⟩ => ⟨h1, h2 ▸ Below.refl _ _⟩
  · by_cases hh : 8 < width
    · obtain ⟨e1, e2⟩ := fix_no (n := n) (width := width) (by omega)
      rw [e1, e2]
      exact (numFix_high n width w hh).mono fun e w' ⟨h1, h2⟩ => ⟨h1, h2 ▸ Below.refl _ _⟩
    · obtain ⟨k, rfl⟩ := Int.eq_ofNat_of_zero_le (show 0 ≤ width by omega)
      by_cases hz : n / 2 ^ (8 * k) = 0
      · obtain ⟨e1, e2⟩ := fix_yes (n := n) (width := (k : Int)) ⟨by omega, by omega, by simpa using hz⟩
        rw [e1, e2, Int.toNat_natCast]
        have hz' : ((n : Int) / 2 ^ (8 * k) != 0) = false := by
          have : (n : Int) / 2 ^ (8 * k) = ((n / 2 ^ (8 * k) : Nat) : Int) := by simp
          rw [this, hz]; rfl
        exact numFix_ok n k w (by omega) (by omega) hn fun _ => hz'
      · obtain ⟨e1, e2⟩ := fix_no (n := n) (width := (k : Int)) (by rw [Int.toNat_natCast]; omega)
        rw [e1, e2]
        have hk : k < 8 := Decidable.byContradiction fun h => hz (pow8 hn h)
        have hz' : ((n : Int) / 2 ^ (8 * k) != 0) = true := by
          have : (n : Int) / 2 ^ (8 * k) = ((n / 2 ^ (8 * k) : Nat) : Int) := by simp
          rw [this, bne_iff_ne]; omega
        exact (numFix_not n k w (by omega) hk hn hz').mono fun e w' ⟨h1, h2⟩ => ⟨h1, h2 ▸ Below.refl _ _⟩

theorem numFix_258 (w : World) :
    Calls Tryd.prog 10 #[.int .u64 258, .int .i64 2] w fun e w' => e = .returned (.tuple #[.string ⟨#[2, 1]⟩, .int .i64 0]) ∧ Below w.heap.size w w' :=
  numFix_any 258 2 w (by omega)

end Go.Proofs.YtliebkpcnojpdaaDoor
