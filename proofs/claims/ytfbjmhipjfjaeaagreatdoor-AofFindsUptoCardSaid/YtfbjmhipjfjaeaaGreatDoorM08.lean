/- Rows of bytes that a call made for itself: what a conversion of a text lays, a store into it, and the text back. The walks of num.Fix and of the reference's. The walks of num.Unfix and of the reference's. The walks of num.steps, num.More, num.Crc and of the reference's. -/
import Derived.Test.YtfbjmhipjfjaeaaGreatDoorM01
import Derived.Test.YtfbjmhipjfjaeaaGreatDoorM07
import Derived.Laws.BitsAllLaws
import Derived.Deep.WholeRow
import Derived.Laws.ResultCell
namespace Go.Proofs.YtfbjmhipjfjaeaaGreatDoor
open Go.ChangeShapes Go.WideShapes Go.ChangeAt Go.RowKit
set_option linter.unusedVariables false

/-- Block g holds the n bytes f first, and none of these is frozen. -/
def BRow (w : World) (g n : Nat) (f : Nat → UInt8) : Prop :=
  ∃ cs t lo hi, w.heap[g]? = some (.cells cs t (lo, hi)) ∧ (lo ≥ n ∨ (lo = 0 ∧ hi = 0)) ∧ ∀ i, i < n → cs[i]? = some (.int .u8 ((f i).toNat : Int))

namespace BRow
variable {w w' : World} {g n : Nat} {f : Nat → UInt8}
theorem cell (h : BRow w g n f) {i : Nat} (hi : i < n) : w.cell? ⟨g, i, none⟩ = some (.int .u8 ((f i).toNat : Int)) := by
  obtain ⟨cs, t, lo, hi', hb, _, hc⟩ := h
  simp [World.cell?, hb, hc i hi]
theorem frozen (h : BRow w g n f) {i : Nat} (hi : i < n) : w.frozen? ⟨g, i, none⟩ = false := by
  obtain ⟨cs, t, lo, hi', hb, hz, _⟩ := h
  simp only [World.frozen?, hb]
  simp
  omega
theorem lt (h : BRow w g n f) : g < w.heap.size := by
  obtain ⟨cs, t, lo, hi', hb, _⟩ := h
  exact (Array.getElem?_eq_some_iff.1 hb).1
theorem of_block (h : BRow w g n f) (e : w'.heap[g]? = w.heap[g]?) : BRow w' g n f := by
  obtain ⟨cs, t, lo, hi', hb, r⟩ := h
  exact ⟨cs, t, lo, hi', e.trans hb, r⟩
theorem below (h : BRow w g n f) {B : Nat} (hb : Below B w w') (hg : g < B) : BRow w' g n f := h.of_block (hb.block g hg)
theorem drew (h : BRow w g n f) : BRow w.drew g n f := h
theorem drewN (h : BRow w g n f) (k : Nat) : BRow (w.drewN k) g n f := h
theorem alloc (h : BRow w g n f) (o : Obj) : BRow (w.alloc o) g n f := h.of_block (Below.heap_alloc w o g h.lt)
theorem far (h : BRow w g n f) {p : Addr} (hp : g ≠ p.block) (u : Value) : BRow (w.setCell p u) g n f := h.of_block (Below.heap_setCell w p u g hp)
theorem congr (h : BRow w g n f) {f' : Nat → UInt8} (e : ∀ i, i < n → f i = f' i) : BRow w g n f' := by
  obtain ⟨cs, t, lo, hi', hb, hz, hc⟩ := h
  exact ⟨cs, t, lo, hi', hb, hz, fun i hi => by rw [hc i hi, e i hi]⟩
theorem set (h : BRow w g n f) (i : Nat) (b : UInt8) : BRow (w.setCell ⟨g, i, none⟩ (.int .u8 (b.toNat : Int))) g n (fun j => if j = i then b else f j) := by
  obtain ⟨cs, t, lo, hi', hb, hz, hc⟩ := h
  refine ⟨cs.setIfInBounds i (.int .u8 (b.toNat : Int)), t, lo, hi', ?_, hz, fun j hj => ?_⟩
  · simp [World.setCell, Array.getElem?_modify, hb]
  · rw [Array.getElem?_setIfInBounds]
    by_cases e : i = j
    · subst e
      have hlt : i < cs.size := (Array.getElem?_eq_some_iff.1 (hc i hj)).1
      simp [hlt]
    · rw [if_neg e, hc j hj]
      have e' : ¬ j = i := fun h => e h.symm
      simp [e']
theorem string {P : Program} (src e : TypeId) (hs : P.underlying src = some (.slice e)) (he : P.underlying e = some (.int .u8)) (h : BRow w g n f) (cap : Nat) {dst : TypeId} (hd : P.underlying dst = some .string) :
    (convert src dst (.slice (some ⟨g, 0, none⟩) n cap)).run P w = .ok (.string (str ((List.range n).map f))) w := by
  have hc := run_convert_bytes_back (P := P) w src dst e ⟨g, 0, none⟩ cap ((List.range n).map f) hs he hd (fun j hj => by
    have hj' : j < n := by simpa using hj
    have e : (⟨g, 0, none⟩ : Addr).add j = ⟨g, j, none⟩ := by unfold Addr.add; split <;> simp_all
    rw [e, h.cell hj']
    simp)
  simp only [List.length_map, List.length_range] at hc
  exact hc
end BRow

/-- The byte at a place of a text. -/
def byteAt (s : ByteArray) (i : Nat) : UInt8 := s.data.toList.getD i 0
theorem byteAt_eq (s : ByteArray) {i : Nat} (h : i < s.size) : byteAt s i = s[i] := by
  unfold byteAt
  rw [List.getD_eq_getElem?_getD, List.getElem?_eq_getElem (by rw [len_toList]; exact h)]
  rfl
theorem map_byteAt (s : ByteArray) : (List.range s.size).map (byteAt s) = s.data.toList := by
  apply List.ext_getElem (by simp)
  intro i h1 h2
  simp only [List.getElem_map, List.getElem_range]
  unfold byteAt
  rw [List.getD_eq_getElem?_getD, List.getElem?_eq_getElem h2]
  rfl

/-- A text as bytes of the call's own: there is a world behind it of which this is known. -/
theorem bytes_of_text {P : Program} (w : World) (src dst e : TypeId) (s : ByteArray) (hs : P.underlying src = some .string) (hd : P.underlying dst = some (.slice e)) (he : P.underlying e = some (.int .u8)) :
    ∃ cap w1, (convert src dst (.string s)).run P w = .ok (.slice (some ⟨w.heap.size, 0, none⟩) s.size cap) w1 ∧ BRow w1 w.heap.size s.size (byteAt s) ∧ Below w.heap.size w w1 ∧ w.heap.size < w1.heap.size ∧ s.size ≤ cap := by
  refine ⟨_, _, run_bytes_of_string w src dst e s hs hd he, ?_, (Below.refl _ _).drew.alloc (Nat.le_refl _) _, ?_, grownCap_ge w s.size 0 e⟩
  · refine ⟨_, _, _, _, heap_alloc_new _ _, Or.inl ?_, fun i hi => ?_⟩
    · simp only [bytesRow, Array.size_append, Array.size_map]
      show s.data.size + _ ≥ s.data.size
      omega
    · rw [byteAt_eq s hi]
      have hd' : i < s.data.size := hi
      simp only [bytesRow]
      rw [Array.getElem?_append_left (by simpa using hd'), Array.getElem?_map, Array.getElem?_eq_getElem hd']
      rfl
  · show w.heap.size < (w.heap.push _).size
    simp

end Go.Proofs.YtfbjmhipjfjaeaaGreatDoor

namespace Go.Proofs.YtfbjmhipjfjaeaaGreatDoor
open Go.ChangeShapes Go.WideShapes Go.ChangeAt Go.RowKit
set_option linter.unusedVariables false
set_option maxRecDepth 100000

open Pl (fixL fixL_succ fixL_length div_step)

theorem u8info : (Tryz.prog.info? 5).map (fun i => (i.zero, i.size, i.bytes)) = some (some (.int .u8 0), 1, 1) := by kernel_rfl

theorem numFix_low (n width : Int) (w : World) (h : width < 1) :
    Calls Tryz.prog 87 #[.int .u64 n, .int .i64 width] w fun e w' => e = .returned (.tuple #[.string (str []), .int .i64 12]) ∧ w = w' := by
  go_enter Tryz.func87, Tryz.ntmps87
  go_wp2
  go_ret2
  exact ⟨rfl, rfl⟩

theorem numFix_high (n width : Int) (w : World) (h : 8 < width) :
    Calls Tryz.prog 87 #[.int .u64 n, .int .i64 width] w fun e w' => e = .returned (.tuple #[.string (str []), .int .i64 12]) ∧ w = w' := by
  go_enter Tryz.func87, Tryz.ntmps87
  go_wp2
  go_ret2
  exact ⟨rfl, rfl⟩

theorem numFix_not (n k : Nat) (w : World) (h1 : 1 ≤ k) (h : k < 8) (hn2 : n ≤ 18446744073709551615) (hs : ((n : Int) / 2 ^ (8 * k) != 0) = true) :
    Calls Tryz.prog 87 #[.int .u64 n, .int .i64 k] w fun e w' => e = .returned (.tuple #[.string (str []), .int .i64 12]) ∧ w = w' := by
  go_enter Tryz.func87, Tryz.ntmps87
  go_wp2
  go_ret2
  exact ⟨rfl, rfl⟩

def FixRow (n k B j : Nat) (wr : World) : Prop :=
  wr.rowIs B 5 k (fun q => if q < j then .int .u8 ((UInt8.ofNat (n / 2 ^ (8 * q))).toNat : Int) else .int .u8 0)

theorem FixRow.step {n k B j : Nat} {wr : World} (h : FixRow n k B j wr) : FixRow n k B (j + 1) (wr.setCell ⟨B, j, none⟩ (.int .u8 ((n : Int) / 2 ^ (8 * j) % 256))) := by
  have h2 := World.rowIs.set h j (.int .u8 ((n : Int) / 2 ^ (8 * j) % 256))
  refine World.rowIs.congr h2 fun i _ => ?_
  by_cases e : i = j
  · subst e
    simp only [if_true, Nat.lt_succ_self]
    congr 1
  · simp only [if_neg e]
    by_cases hl : i < j
    · rw [if_pos hl, if_pos (by omega)]
    · rw [if_neg hl, if_neg (by omega)]

theorem numFix_ok (n k : Nat) (w : World) (h1 : 1 ≤ k) (h : k ≤ 8) (hn2 : n ≤ 18446744073709551615) (hs : k < 8 → ((n : Int) / 2 ^ (8 * k) != 0) = false) :
    Calls Tryz.prog 87 #[.int .u64 n, .int .i64 k] w fun e w' => e = .returned (.tuple #[.string (str (fixL n k)), .int .i64 0]) ∧ Below w.heap.size w w' := by
  have hmk := fun kl kc W => run_make_row' (P := Tryz.prog) 113 5 (.int .u8 0) 1 Tryz.underlying113 u8info rfl kl kc k (by omega) (by omega) W
  have hk8 : (decide ((k : Int) < 8) = true ∧ ((n : Int) / 2 ^ (8 * k) != 0) = false) ∨ (decide ((k : Int) < 8) = false) := by
    by_cases hk : k < 8
    · exact .inl ⟨decide_eq_true (by omega), hs hk⟩
    · exact .inr (decide_eq_false (by omega))
  clear hs
  rcases hk8 with ⟨hk, hs⟩ | hk
  all_goals
    go_enter Tryz.func87, Tryz.ntmps87
    go_wp2_with fail
    clear hmk
    go_loopw [28] (fun i wr => ∃ j : Nat, j ≤ k ∧ i = .int .i64 j ∧ Below w.heap.size w wr ∧ FixRow n k w.heap.size j wr) (fun i _ => k - (intOf i).toNat)
    case atStart =>
      exact ⟨0, by omega, rfl, (Below.refl _ _).alloc (Nat.le_refl _) _, (World.rowIs_made w (.int .u8 0) k _).congr fun i _ => by simp⟩
    case round =>
      obtain ⟨j, hj, rfl, hb, hrow⟩ := hrel
      by_cases hlt : j < k
      · have hc := World.rowIs.cell hrow hlt
        have hf := World.rowIs.frozen hrow j
        simp only [Nat.lt_irrefl, if_false] at hc
        go_wp2
        go_roundw
        case rel => exact ⟨j + 1, by omega, by go_num, hb.setCell (Nat.le_refl _) _, hrow.step⟩
        case measure => simp [intOf]; omega
      · have hrow' := World.rowIs.congr hrow (g := fun q => .int .u8 ((UInt8.ofNat (n / 2 ^ (8 * q))).toNat : Int)) (fun i hi => by rw [if_pos (by omega)])
        have hcv := rowBytes_string 113 5 Tryz.underlying113 Tryz.underlying5 hrow' k Tryz.underlying9
        clear hrow hrow'
        go_wp2
        go_ret2
        exact ⟨rfl, hb⟩

/-! The reference. -/
theorem refFix_low (n width : Int) (w : World) (h : width < 1) :
    Calls Tryz.prog 79 #[.int .u64 n, .int .i64 width] w fun e w' => e = .returned (.tuple #[.string (str []), .int .i64 12]) ∧ w = w' := by
  go_enter Tryz.func79, Tryz.ntmps79
  go_wp2
  go_ret2
  exact ⟨rfl, rfl⟩
theorem refFix_high (n width : Int) (w : World) (h : 8 < width) :
    Calls Tryz.prog 79 #[.int .u64 n, .int .i64 width] w fun e w' => e = .returned (.tuple #[.string (str []), .int .i64 12]) ∧ w = w' := by
  go_enter Tryz.func79, Tryz.ntmps79
  go_wp2
  go_ret2
  exact ⟨rfl, rfl⟩

def bytesV (l : List UInt8) : List Value := l.map fun b => .int .u8 (b.toNat : Int)

theorem own_string {P : Program} {w : World} (src e : TypeId) (hs : P.underlying src = some (.slice e)) (he : P.underlying e = some (.int .u8)) {base : Nat} {v : Value} {l : List UInt8} {n : Nat} (hl : n = l.length)
    (h : w.ownsRow base e 1 v n (bytesV l)) {dst : TypeId} (hd : P.underlying dst = some .string) :
    (convert src dst v).run P w = .ok (.string (str l)) w := by
  subst hl
  rcases h.2 with ⟨rfl, hx⟩ | ⟨g, cap, cur, rfl, _⟩
  · have : l = [] := by simpa [bytesV] using hx
    subst this
    rw [run_convert_bytes_string w src dst e _ _ _ hs he hd]
    simp [Conv.bytesToString]; rfl
  · refine run_convert_bytes_back (P := P) w src dst e ⟨g, 0, none⟩ cap l hs he hd fun j hj => ?_
    exact h.cells (g := g) rfl j _ (by simp [bytesV, hj])

theorem bytesV_snoc (l : List UInt8) (b : UInt8) : bytesV (l ++ [b]) = bytesV l ++ [.int .u8 (b.toNat : Int)] := by simp [bytesV]

theorem refFix_in (n k : Nat) (w : World) (h1 : 1 ≤ k) (h : k ≤ 8) (hn2 : n ≤ 18446744073709551615) :
    Calls Tryz.prog 79 #[.int .u64 n, .int .i64 k] w fun e w' => ∃ q : Nat, q = n / 2 ^ (8 * k) ∧ e = .returned (.tuple #[.string (if q = 0 then str (fixL n k) else str []), .int .i64 (if q = 0 then 0 else 12)]) ∧ Below w.heap.size w w' := by
  go_enter Tryz.func79, Tryz.ntmps79
  go_wp2_with fail
  go_loopw [0, 6, 7] (fun m v i wr => ∃ j q : Nat, j ≤ k ∧ i = .int .i64 j ∧ m = .int .u64 q ∧ Hid (q = n / 2 ^ (8 * j)) ∧ q ≤ 18446744073709551615 ∧ Below w.heap.size w wr ∧ wr.ownsRow w.heap.size 5 1 v j (bytesV (fixL n j))) (fun _ _ i _ => k - (intOf i).toNat)
  case atStart => exact ⟨0, n, by omega, rfl, rfl, (by simp : n = n / 2 ^ (8 * 0)), hn2, Below.refl _ _, World.ownsRow_nil _ _ _ _⟩
  case round =>
    obtain ⟨j, q, hj, rfl, rfl, hq, hq2, hb, hown⟩ := hrel
    by_cases hlt : j < k
    · go_wp2_with (at_builtin; refine wpList_append_one _ rfl _ _ 113 rfl w.heap.size 5 (.int .u8 0) 1 Tryz.underlying113 u8info rfl _ j _ rfl hown _ rfl rfl (by simp only [maxLen]; omega) (by omega) hb.size ?_; intro v' w1 hown' hg hbl; have hb' := hbl _ _ hb (Nat.le_refl _); clear hbl hg)
      refine ⟨⟨j + 1, q / 256, by omega, by go_num, by go_num, ?_, by omega, hb', ?_⟩, by simp [intOf]; omega⟩
      · show _ = _
        rw [hq.out, div_step]
      · rw [fixL_succ, bytesV_snoc, ← hq.out, UInt8.toNat_ofNat']
        exact hown'
    · obtain rfl : j = k := by omega
      have hcv := own_string 113 5 Tryz.underlying113 Tryz.underlying5 (fixL_length _ _).symm hown Tryz.underlying9
      clear hown
      by_cases hz : q = 0
      · have hz' : decide ((0 : Int) < (q : Int)) = false := decide_eq_false (by omega)
        go_wp2
        go_ret2
        exact ⟨q, hq.out, by simp [hz], hb⟩
      · have hz' : decide ((0 : Int) < (q : Int)) = true := decide_eq_true (by omega)
        go_wp2
        go_ret2
        exact ⟨q, hq.out, by simp [hz]; rfl, hb⟩

/-- What both tell: the bytes, and the error's number. -/
def fixOk (n : Nat) (width : Int) : Bool := decide (1 ≤ width ∧ width ≤ 8 ∧ n / 2 ^ (8 * width.toNat) = 0)
def fixS (n : Nat) (width : Int) : List UInt8 := if fixOk n width then fixL n width.toNat else []
def fixE (n : Nat) (width : Int) : Int := if fixOk n width then 0 else 12

theorem fix_no {n : Nat} {width : Int} (h : ¬ (1 ≤ width ∧ width ≤ 8 ∧ n / 2 ^ (8 * width.toNat) = 0)) : fixS n width = [] ∧ fixE n width = 12 := by
  have : fixOk n width = false := decide_eq_false h
  simp [fixS, fixE, this]
theorem fix_yes {n : Nat} {width : Int} (h : 1 ≤ width ∧ width ≤ 8 ∧ n / 2 ^ (8 * width.toNat) = 0) : fixS n width = fixL n width.toNat ∧ fixE n width = 0 := by
  have : fixOk n width = true := decide_eq_true h
  simp [fixS, fixE, this]
theorem pow8 {n k : Nat} (hn : n ≤ 18446744073709551615) (hk : ¬ k < 8) : n / 2 ^ (8 * k) = 0 := by
  apply Nat.div_eq_of_lt
  have : 2 ^ 64 ≤ 2 ^ (8 * k) := Nat.pow_le_pow_right (by omega) (by omega)
  omega

theorem numFix_any (n : Nat) (width : Int) (w : World) (hn : n ≤ 18446744073709551615) :
    Calls Tryz.prog 87 #[.int .u64 n, .int .i64 width] w fun e w' => e = .returned (.tuple #[.string (str (fixS n width)), .int .i64 (fixE n width)]) ∧ Below w.heap.size w w' := by
  by_cases hl : width < 1
  · obtain ⟨e1, e2⟩ := fix_no (n := n) (width := width) (by omega)
    rw [e1, e2]
    exact (numFix_low n width w hl).mono fun e w' ⟨h1, h2⟩ => ⟨h1, h2 ▸ Below.refl _ _⟩
  · by_cases hh : 8 < width
    · obtain ⟨e1, e2⟩ := fix_no (n := n) (width := width) (by omega)
      rw [e1, e2]
      exact (numFix_high n width w hh).mono fun e w' ⟨h1, h2⟩ => ⟨h1, h2 ▸ Below.refl _ _⟩
    · obtain ⟨k, rfl⟩ := Int.eq_ofNat_of_zero_le (show 0 ≤ width by omega)
      by_cases hz : n / 2 ^ (8 * k) = 0
      · obtain ⟨e1, e2⟩ := fix_yes (n := n) (width := (k : Int)) ⟨by omega, by omega, by simpa using hz⟩
        rw [e1, e2, Int.toNat_natCast]
        have hz' : ((n : Int) / 2 ^ (8 * k) != 0) = false := by
          have : (n : Int) / 2 ^ (8 * k) = ((n / 2 ^ (8 * k) : Nat) : Int) := by simp
          rw [this, hz]; rfl
        exact numFix_ok n k w (by omega) (by omega) hn fun _ => hz'
      · obtain ⟨e1, e2⟩ := fix_no (n := n) (width := (k : Int)) (by rw [Int.toNat_natCast]; omega)
        rw [e1, e2]
        have hk : k < 8 := Decidable.byContradiction fun h => hz (pow8 hn h)
        have hz' : ((n : Int) / 2 ^ (8 * k) != 0) = true := by
          have : (n : Int) / 2 ^ (8 * k) = ((n / 2 ^ (8 * k) : Nat) : Int) := by simp
          rw [this, bne_iff_ne]; omega
        exact (numFix_not n k w (by omega) hk hn hz').mono fun e w' ⟨h1, h2⟩ => ⟨h1, h2 ▸ Below.refl _ _⟩

theorem refFix_any (n : Nat) (width : Int) (w : World) (hn : n ≤ 18446744073709551615) :
    Calls Tryz.prog 79 #[.int .u64 n, .int .i64 width] w fun e w' => e = .returned (.tuple #[.string (str (fixS n width)), .int .i64 (fixE n width)]) ∧ Below w.heap.size w w' := by
  by_cases hl : width < 1
  · obtain ⟨e1, e2⟩ := fix_no (n := n) (width := width) (by omega)
    rw [e1, e2]
    exact (refFix_low n width w hl).mono fun e w' ⟨h1, h2⟩ => ⟨h1, h2 ▸ Below.refl _ _⟩
  · by_cases hh : 8 < width
    · obtain ⟨e1, e2⟩ := fix_no (n := n) (width := width) (by omega)
      rw [e1, e2]
      exact (refFix_high n width w hh).mono fun e w' ⟨h1, h2⟩ => ⟨h1, h2 ▸ Below.refl _ _⟩
    · obtain ⟨k, rfl⟩ := Int.eq_ofNat_of_zero_le (show 0 ≤ width by omega)
      refine (refFix_in n k w (by omega) (by omega) hn).mono fun e w' ⟨q, hq, h1, h2⟩ => ⟨?_, h2⟩
      by_cases hz : q = 0
      · obtain ⟨e1, e2⟩ := fix_yes (n := n) (width := (k : Int)) ⟨by omega, by omega, by rw [Int.toNat_natCast]; omega⟩
        rw [h1, e1, e2, Int.toNat_natCast]; simp [hz]
      · obtain ⟨e1, e2⟩ := fix_no (n := n) (width := (k : Int)) (by rw [Int.toNat_natCast]; omega)
        rw [h1, e1, e2]; simp [hz]

theorem numFix_258 (w : World) :
    Calls Tryz.prog 87 #[.int .u64 258, .int .i64 2] w fun e w' => e = .returned (.tuple #[.string ⟨#[2, 1]⟩, .int .i64 0]) ∧ Below w.heap.size w w' :=
  numFix_any 258 2 w (by omega)

end Go.Proofs.YtfbjmhipjfjaeaaGreatDoor

namespace Go.Proofs.YtfbjmhipjfjaeaaGreatDoor
open Go.ChangeShapes Go.WideShapes Go.ChangeAt Go.RowKit
set_option linter.unusedVariables false

theorem numUnfix_not (s : ByteArray) (w : World) (hs : s.size ≤ maxLen) (h : s.size < 1 ∨ 8 < s.size) :
    Calls Tryz.prog 98 #[.string s] w fun e w' => e = .returned (.tuple #[.int .u64 0, .int .i64 12]) ∧ w = w' := by
  unfold maxLen at hs
  rcases h with h | h
  all_goals
    go_enter Tryz.func98, Tryz.ntmps98
    go_wp2
    go_ret2
    exact ⟨rfl, rfl⟩

theorem wrap_u64_of {n : Int} (h0 : 0 ≤ n) (h : n ≤ 18446744073709551615) : IntKind.u64.wrap n = n := by
  rw [IntKind.wrap_u64]; omega

theorem unfix_step (s : ByteArray) (j : Nat) (hj : j < s.size) (h8 : s.size ≤ 8) :
    bits BinOp.or IntKind.u64 (Pl.num (s.data.toList.take j) : Nat) (IntKind.u64.wrap (IntKind.u64.wrap (s[j].toNat : Int) * 2 ^ (8 * j))) = (Pl.num (s.data.toList.take (j + 1)) : Nat) := by
  have hc := (s[j]).toNat_lt
  have hl : (s.data.toList.take j).length = j := by rw [List.length_take, len_toList]; omega
  have hp : 2 ^ (8 * j) ≤ 2 ^ 56 := Nat.pow_le_pow_right (by omega) (by omega)
  have hm : s[j].toNat * 2 ^ (8 * j) ≤ 255 * 2 ^ 56 := Nat.mul_le_mul (by omega) hp
  have e1 : IntKind.u64.wrap (s[j].toNat : Int) = s[j].toNat := wrap_u64_of (by omega) (by omega)
  have e2 : (s[j].toNat : Int) * 2 ^ (8 * j) = ((s[j].toNat * 2 ^ (8 * j) : Nat) : Int) := by simp
  have e3 : IntKind.u64.wrap ((s[j].toNat * 2 ^ (8 * j) : Nat) : Int) = (s[j].toNat * 2 ^ (8 * j) : Nat) := wrap_u64_of (by omega) (by omega)
  have hn := Pl.num_lt8 (l := s.data.toList.take j) (by omega)
  rw [e1, e2, e3, u64_or_nat _ _ hn (by omega)]
  have h := Pl.num_or (s.data.toList.take j) s[j]
  rw [hl] at h
  rw [h, take_snoc s j hj]

theorem numUnfix_ok (s : ByteArray) (w : World) (h1 : 1 ≤ s.size) (h8 : s.size ≤ 8) :
    Calls Tryz.prog 98 #[.string s] w fun e w' => e = .returned (.tuple #[.int .u64 (Pl.num s.data.toList), .int .i64 0]) ∧ w = w' := by
  go_enter Tryz.func98, Tryz.ntmps98
  go_wp2_with fail
  go_loop [4, 16] (fun n i => ∃ j q : Nat, j ≤ s.size ∧ i = .int .i64 j ∧ n = .int .u64 q ∧ Hid (q = Pl.num (s.data.toList.take j))) (fun _ i => s.size - (intOf i).toNat)
  case atStart => exact ⟨0, 0, by omega, rfl, rfl, rfl⟩
  case round =>
    obtain ⟨j, q, hj, rfl, rfl, hq⟩ := hrel
    by_cases hlt : j < s.size
    · have hst := Lib.hid (unfix_step s j hlt h8)
      go_wp2
      go_round
      case rel => exact ⟨j + 1, Pl.num (s.data.toList.take (j + 1)), by omega, by go_num, by rw [hq.out, hst.out], rfl⟩
      case measure => (simp [intOf]; try omega)
    · have hfin : Hid (q = Pl.num s.data.toList) := by
        have := hq.out
        rwa [show j = s.size by omega, take_all] at this
      clear hq
      go_wp2
      go_ret2
      exact ⟨by rw [← hfin.out]; rfl, rfl⟩

/-! the reference -/
theorem unfix_back (s : ByteArray) (k : Nat) (hk : k < s.size) (h8 : s.size ≤ 8) :
    IntKind.u64.wrap (IntKind.u64.wrap (256 * (Pl.num (s.data.toList.drop (k + 1)) : Nat)) + IntKind.u64.wrap (s[k].toNat : Int)) = (Pl.num (s.data.toList.drop k) : Nat) := by
  have hc := (s[k]).toNat_lt
  have hn := Pl.num_lt8 (l := s.data.toList.drop k) (by rw [List.length_drop, len_toList]; omega)
  rw [drop_cons s k hk] at hn ⊢
  simp only [Pl.num] at hn ⊢
  rw [wrap_u64_of (n := 256 * _) (by omega) (by omega), wrap_u64_of (n := (s[k].toNat : Int)) (by omega) (by omega), wrap_u64_of (by omega) (by omega)]
  omega

/-- What both tell: the number, and the error. -/
def unfixN (s : ByteArray) : Nat := if 1 ≤ s.size ∧ s.size ≤ 8 then Pl.num s.data.toList else 0
def unfixE (s : ByteArray) : Int := if 1 ≤ s.size ∧ s.size ≤ 8 then 0 else 12
theorem unfixN_le (s : ByteArray) : unfixN s ≤ 18446744073709551615 := by
  unfold unfixN
  split
  · have := Pl.num_lt8 (l := s.data.toList) (by rw [len_toList]; omega)
    omega
  · omega

theorem numUnfix_any (s : ByteArray) (w : World) (hs : s.size ≤ maxLen) :
    Calls Tryz.prog 98 #[.string s] w fun e w' => e = .returned (.tuple #[.int .u64 (unfixN s), .int .i64 (unfixE s)]) ∧ w = w' := by
  unfold unfixN unfixE
  by_cases h : 1 ≤ s.size ∧ s.size ≤ 8
  · rw [if_pos h, if_pos h]; exact numUnfix_ok s w h.1 h.2
  · rw [if_neg h, if_neg h]; exact numUnfix_not s w hs (by omega)
end Go.Proofs.YtfbjmhipjfjaeaaGreatDoor

namespace Go.Proofs.YtfbjmhipjfjaeaaGreatDoor
open Go.ChangeShapes Go.WideShapes Go.ChangeAt Go.RowKit
set_option linter.unusedVariables false

/-- The table with its first k rows filled. -/
def tab (k : Nat) : Array Value := ((List.range 256).map fun i => if i < k then Value.int .u32 ((Pl.stepN 8 i : Nat) : Int) else .int .u32 0).toArray
theorem tab_size (k : Nat) : (tab k).size = 256 := by simp [tab]
theorem tab_get {k i : Nat} (h : i < k) (hk : k ≤ 256) : (tab k)[i]? = some (.int .u32 ((Pl.stepN 8 i : Nat) : Int)) := by
  simp [tab, show i < 256 by omega, h]
theorem tab_set (k : Nat) (hk : k < 256) : (tab k).setIfInBounds k (.int .u32 ((Pl.stepN 8 k : Nat) : Int)) = tab (k + 1) := by
  apply Array.ext_getElem?
  intro i
  rw [Array.getElem?_setIfInBounds]
  by_cases e : k = i
  · subst e
    simp [tab, hk]
  · rw [if_neg e]
    by_cases hi : i < 256
    · simp only [tab, List.getElem?_toArray, List.getElem?_map, List.getElem?_range hi, Option.map_some]
      by_cases h1 : i < k
      · simp [h1, show i < k + 1 by omega]
      · simp [h1, show ¬ i < k + 1 by omega]
    · simp [tab, hi]
theorem tab_one (k : Nat) : (tab k).all (·.oneCell') = true := by
  rw [Array.all_eq_true_iff_forall_mem]
  intro v hv
  simp only [tab, List.mem_toArray, List.mem_map] at hv
  obtain ⟨i, _, rfl⟩ := hv
  split <;> rfl
theorem tab_old (k : Nat) (hk : k < 256) : ∃ v, (tab k)[k]? = some v := by
  simp [tab, hk]

theorem zero_tab : ∀ w, (zeroValue 183).run Tryz.prog w = .ok (.agg (tab 0)) w := fun w => by kernel_rfl
theorem size_tab : (Tryz.prog.info? 183).map (·.size) = some 256 := by kernel_rfl

theorem and_one {r : Nat} (h : r < 4294967296) : bits .and .u32 (r : Int) 1 = ((r % 2 : Nat) : Int) := by
  have := u32_and_nat r 1 h (by omega)
  rw [nat_mask1] at this
  exact this
theorem xor_poly {r : Nat} (h : r < 4294967296) : bits .xor .u32 ((r : Int) / 2) 3988292384 = (((r / 2) ^^^ 3988292384 : Nat) : Int) := by
  have := u32_xor_nat (r / 2) 3988292384 (by omega) (by omega)
  rw [← this]; rfl
theorem step_even {r : Nat} (h : r % 2 = 0) : Pl.step1 r = r / 2 := by unfold Pl.step1; rw [if_neg (by omega)]
theorem step_odd {r : Nat} (h : r % 2 = 1) : Pl.step1 r = (r / 2) ^^^ 3988292384 := by unfold Pl.step1; rw [if_pos h]

theorem wpList_store_row {P : Program} {ops : Array Oper} {rest : List Oper} {o : Oper} {a : Act} {w : World} {Q : Exit → Act → World → Prop} (hgd : o.guard = none) (ty : TypeId) (x y : Operand) (ho : o.op = .store ty x y)
    (g : Nat) (hx : a.eval x = .pointer (some ⟨g, 0, none⟩)) (t : TypeId) (old cells : Array Value) (hy : a.eval y = .agg cells) (hg : w.heap[g]? = some (.cells old t (0, 0)))
    (hi : (P.info? ty).map (·.size) = some cells.size) (hs : old.size = cells.size) (h1 : cells.all (·.oneCell') = true)
    (h : wpList P ops Q rest (a.put o.dst undef) (w.setRow g cells)) : wpList P ops Q (o :: rest) a w := by
  refine wpList_plain hgd fun K hK => ?_
  unfold Oper.wp execOp
  simp only [ho, hx, hy, Instr.storeAt, Instr.sureAddr, Sem.run_bind, Sem.run_pure, Result.andThen_ok, run_storeVar_row w g t ty old cells hg hi hs h1]
  exact hK _ _ h

theorem below_setRow {B : Nat} {a w : World} (h : Below B a w) {g : Nat} (hg : B ≤ g) (cs : Array Value) : Below B a (w.setRow g cs) :=
  h.trans ⟨rfl, rfl, rfl, by simp [World.setRow], fun k hk => by simp [World.setRow, Array.getElem?_modify, show ¬ g = k by omega]⟩

theorem tab_there (w : World) : (((w.alloc (.cells (tab 0) 183)).alloc (.cells (tab 256) 183)).setRow w.heap.size (tab 256)).heap[w.heap.size]? = some (.cells (tab 256) 183 (0, 0)) := by
  have h := heap_alloc2_old w (.cells (tab 0) 183) (.cells (tab 256) 183)
  simp only [World.setRow, Array.getElem?_modify, if_true, h, Option.map_some]

set_option maxRecDepth 100000 in
theorem crcSteps_any (w : World) : Calls Tryz.prog 113 #[] w fun e w' => e = .returned (.agg (tab 256)) ∧ Below w.heap.size w w' := by
  have hz := zero_tab
  go_enter Tryz.func113, Tryz.ntmps113
  go_wp2_with fail
  clear hz
  go_loopw [5] (fun i wr => ∃ k : Nat, k ≤ 256 ∧ i = .int .i64 k ∧ wr = (w.alloc (.cells (tab 0) 183)).alloc (.cells (tab k) 183)) (fun i _ => 256 - (intOf i).toNat)
  case atStart => exact ⟨0, by omega, rfl, rfl⟩
  case round =>
    obtain ⟨k, hk, rfl, rfl⟩ := hrel
    by_cases hlt : k < 256
    · go_wp2_with fail
      go_loop [3, 10] (fun r c => ∃ m q : Nat, m ≤ 8 ∧ c = .int .i64 m ∧ r = .int .u32 q ∧ q ≤ 4294967295 ∧ Hid (q = Pl.stepN m k)) (fun _ c => 8 - (intOf c).toNat)
      case atStart => exact ⟨0, k, by omega, rfl, rfl, by omega, rfl⟩
      case round =>
        obtain ⟨m, q, hm, rfl, rfl, hq, hst⟩ := hrel
        by_cases hm8 : m < 8
        · have ha := and_one (r := q) (by omega)
          have hx := xor_poly (r := q) (by omega)
          rcases Nat.mod_two_eq_zero_or_one q with h2 | h2
          · rw [h2] at ha
            clear hx
            have hs := Lib.hid (step_even h2)
            clear h2
            go_wp2
            go_round
            case rel => exact ⟨m + 1, q / 2, by omega, by go_num, rfl, by omega, by show _ = Pl.step1 _; rw [← hst.out, hs.out]⟩
            case measure => (simp [intOf]; try omega)
          · rw [h2] at ha
            have hs := Lib.hid (step_odd h2)
            clear h2
            have hlt2 := Pl.step1_lt (r := q) (by omega)
            rw [hs.out] at hlt2
            go_wp2
            go_round
            case rel => exact ⟨m + 1, _, by omega, by go_num, rfl, by omega, by show _ = Pl.step1 _; rw [← hst.out, hs.out]⟩
            case measure => (simp [intOf]; try omega)
        · obtain ⟨v0, hv0⟩ := tab_old k hlt
          have hq8 : Hid (q = Pl.stepN 8 k) := by
            have := hst.out
            rwa [show m = 8 by omega] at this
          clear hst
          go_wp2
          go_roundw
          case rel => exact ⟨k + 1, by omega, by go_num, by rw [hq8.out, tab_set k hlt]⟩
          case measure => (simp [intOf]; try omega)
    · obtain rfl : k = 256 := by omega
      have hge : decide ((256 : Int) < 256) = false := by decide
      go_wp2_with (first
        | (refine wpList_load_row rfl 183 (.tmp 1) rfl (w.heap.size + 1) rfl 183 (tab 256) (0, 0) _ (heap_alloc2_new w _ _) Tryz.underlying183 rfl (by rw [tab_size]; exact size_tab) ?_)
        | (refine wpList_store_row rfl 183 (.tmp 0) (.tmp 25) rfl w.heap.size rfl 183 (tab 0) (tab 256) rfl (heap_alloc2_old w _ _) (by rw [tab_size]; exact size_tab) (by rw [tab_size, tab_size]) (tab_one _) ?_))
      refine bodyPost_ret (v := .agg (tab 256)) (results_cell_row rfl _ _ w.heap.size 183 (tab 256) (0, 0) _ rfl (tab_there w) Tryz.underlying183 rfl (by rw [tab_size]; exact size_tab)) rfl ⟨rfl, ?_⟩
      exact below_setRow (((Below.refl _ _).alloc (Nat.le_refl _) _).alloc (by simp) _) (Nat.le_refl _) _

/-- The table of the program does to a byte what eight steps do. -/
theorem xor_tab {q c : Nat} (hq : q < 4294967296) (hc : c < 256) : bits .xor .u8 ((q : Int) % 256) (c : Int) = (((q % 256) ^^^ c : Nat) : Int) := by
  have := u8_xor_nat (q % 256) c (by omega) hc
  rw [← this]; rfl
theorem xor_lt256 {q c : Nat} (hc : c < 256) : (q % 256) ^^^ c < 256 := Nat.xor_lt_two_pow (n := 8) (by omega) hc
theorem upd_bits {q c : Nat} (hq : q < 4294967296) (hc : c < 256) : bits .xor .u32 ((Pl.stepN 8 ((q % 256) ^^^ c) : Nat) : Int) ((q : Int) / 256) = ((Pl.upd q c : Nat) : Int) := by
  have h1 := Pl.stepN_lt 8 (r := (q % 256) ^^^ c) (by have := xor_lt256 (q := q) hc; omega)
  have := u32_xor_nat (Pl.stepN 8 ((q % 256) ^^^ c)) (q / 256) h1 (by omega)
  rw [Pl.upd_table] at this
  rw [← this]; rfl

theorem not32_xor {n : Nat} (h : n ≤ 4294967295) : 4294967295 ^^^ n = Pl.not32 n := by
  apply Nat.eq_of_testBit_eq
  intro i
  have e1 : (4294967295 : Nat).testBit i = decide (i < 32) := Nat.testBit_two_pow_sub_one 32 i
  have e2 : (2 ^ 32 - (n + 1)).testBit i = (decide (i < 32) && !n.testBit i) := Nat.testBit_two_pow_sub_succ (by omega) i
  have e3 : Pl.not32 n = 2 ^ 32 - (n + 1) := by unfold Pl.not32; omega
  rw [e3, e2, Nat.testBit_xor, e1]
  by_cases hi : i < 32
  · simp [hi]
  · have : n.testBit i = false := Nat.testBit_lt_two_pow (Nat.lt_of_lt_of_le (show n < 2 ^ 32 by omega) (Nat.pow_le_pow_right (by omega) (by omega)))
    simp [hi, this]
theorem not_bits {n : Nat} (h : n ≤ 4294967295) : bits .xor .u32 IntKind.u32.max (n : Int) = ((Pl.not32 n : Nat) : Int) := by
  have := u32_xor_nat 4294967295 n (by omega) (by omega)
  rw [not32_xor h] at this
  exact this

set_option maxRecDepth 100000 in
theorem more_any (n : Nat) (s : ByteArray) (w : World) (hn : n ≤ 4294967295) (hs : s.size ≤ maxLen) :
    Calls Tryz.prog 101 #[.int .u32 n, .string s] w fun e w' => e = .returned (.int .u32 (Pl.more n s.data.toList)) ∧ Below w.heap.size w w' := by
  unfold maxLen at hs
  have hz := zero_tab
  have hnot := not_bits hn
  have hnl := Pl.not32_lt n
  go_enter Tryz.func101, Tryz.ntmps101
  go_wp2_with fail
  refine (crcSteps_any _).mono ?_
  rintro e w1 ⟨rfl, b1⟩
  go_wp2_with (first
        | (refine wpList_store_row rfl 183 (.tmp 5) (.tmp 8) rfl w1.heap.size rfl 183 (tab 0) (tab 256) rfl (heap_alloc_last _ _) (by rw [tab_size]; exact size_tab) (by rw [tab_size, tab_size]) (tab_one _) ?_))
  have hb : Below w.heap.size w ((w1.alloc (.cells (tab 0) 183)).setRow w1.heap.size (tab 256)) := below_setRow (b1.alloc b1.size _) b1.size _
  have hg : ((w1.alloc (.cells (tab 0) 183)).setRow w1.heap.size (tab 256)).heap[w1.heap.size]? = some (.cells (tab 256) 183 (0, 0)) := by
    simp only [World.setRow, Array.getElem?_modify, if_true, heap_alloc_last, Option.map_some]
  clear hz hnot
  generalize ((w1.alloc (.cells (tab 0) 183)).setRow w1.heap.size (tab 256)) = w2 at hb hg ⊢
  generalize w1.heap.size = g at hg ⊢
  clear b1 w1
  have Hg := Lib.hid hg
  clear hg
  go_loop [6, 13] (fun r i => ∃ j q : Nat, j ≤ s.size ∧ i = .int .i64 j ∧ r = .int .u32 q ∧ q ≤ 4294967295 ∧ Hid (q = Pl.crcL (Pl.not32 n) (s.data.toList.take j))) (fun _ i => s.size - (intOf i).toNat)
  case atStart => exact ⟨0, _, by omega, rfl, rfl, by omega, rfl⟩
  case round =>
    obtain ⟨j, q, hj, rfl, rfl, hq, hst⟩ := hrel
    by_cases hlt : j < s.size
    · have hc := (s[j]).toNat_lt
      have hx := xor_tab (q := q) (c := s[j].toNat) (by omega) hc
      have hl := xor_lt256 (q := q) hc
      have hcell : w2.cell? ⟨g, (q % 256) ^^^ s[j].toNat, none⟩ = some (.int .u32 ((Pl.stepN 8 ((q % 256) ^^^ s[j].toNat) : Nat) : Int)) :=
        (cell_of_row w2 g _ _ _ _ Hg.out).trans (tab_get hl (by omega))
      have hu := upd_bits (q := q) (c := s[j].toNat) (by omega) hc
      have hs2 : Hid (Pl.upd q s[j].toNat = Pl.crcL (Pl.not32 n) (s.data.toList.take (j + 1))) := by
        show _ = _
        rw [take_snoc s j hlt, Pl.crcL_snoc, ← hst.out]
      have hul := Pl.upd_lt (r := q) (c := s[j].toNat) (by omega) hc
      go_wp2
      go_round
      case rel => exact ⟨j + 1, _, by omega, by go_num, rfl, by omega, hs2⟩
      case measure => (simp [intOf]; try omega)
    · have hfin : Hid (Pl.not32 q = Pl.more n s.data.toList) := by
        show _ = _
        rw [hst.out, show j = s.size by omega, take_all]; rfl
      have hnot := not_bits hq
      clear hst
      go_wp2
      go_ret
      exact ⟨by rw [← hfin.out]; rfl, hb⟩

theorem crc_any (s : ByteArray) (w : World) (hs : s.size ≤ maxLen) :
    Calls Tryz.prog 94 #[.string s] w fun e w' => e = .returned (.int .u32 (Pl.crc s.data.toList)) ∧ Below w.heap.size w w' := by
  go_enter Tryz.func94, Tryz.ntmps94
  go_wp2_with fail
  refine (more_any 0 s _ (by omega) hs).mono ?_
  rintro e w1 ⟨rfl, b1⟩
  go_wp2
  go_ret
  exact ⟨rfl, b1⟩

/-! The reference. -/
theorem xor_byte {q : Nat} (c : UInt8) (hq : q ≤ 4294967295) : bits .xor .u32 (q : Int) ((c.toNat : Int) % 4294967296) = ((q ^^^ c.toNat : Nat) : Int) := by
  have := c.toNat_lt
  rw [show ((c.toNat : Int) % 4294967296) = (c.toNat : Int) from by omega]
  exact u32_xor_nat q c.toNat (by omega) (by omega)
theorem xor_byte_lt {q : Nat} (c : UInt8) (hq : q ≤ 4294967295) : q ^^^ c.toNat < 4294967296 :=
  Nat.xor_lt_two_pow (n := 32) (by omega) (by have := c.toNat_lt; omega)

set_option maxRecDepth 100000 in
theorem refMore_any (n : Nat) (s : ByteArray) (w : World) (hn : n ≤ 4294967295) (hs : s.size ≤ maxLen) :
    Calls Tryz.prog 80 #[.int .u32 n, .string s] w fun e w' => e = .returned (.int .u32 (Pl.more n s.data.toList)) ∧ w = w' := by
  unfold maxLen at hs
  have hnot := not_bits hn
  have hnl := Pl.not32_lt n
  go_enter Tryz.func80, Tryz.ntmps80
  go_wp2_with fail
  clear hnot
  go_loop [5, 6] (fun r i => ∃ j q : Nat, j ≤ s.size ∧ i = .int .i64 j ∧ r = .int .u32 q ∧ q ≤ 4294967295 ∧ Hid (q = Pl.crcL (Pl.not32 n) (s.data.toList.take j))) (fun _ i => s.size - (intOf i).toNat)
  case atStart => exact ⟨0, _, by omega, rfl, rfl, by omega, rfl⟩
  case round =>
    obtain ⟨j, q, hj, rfl, rfl, hq, hst⟩ := hrel
    by_cases hlt : j < s.size
    · have hx := xor_byte s[j] hq
      have hxl := xor_byte_lt s[j] hq
      have hs2 : Hid (Pl.stepN 8 (q ^^^ s[j].toNat) = Pl.crcL (Pl.not32 n) (s.data.toList.take (j + 1))) := by
        show _ = _
        rw [take_snoc s j hlt, Pl.crcL_snoc, ← hst.out]; rfl
      clear hst
      go_wp2_with fail
      clear hx
      generalize q ^^^ s[j].toNat = x at hxl hs2 ⊢
      go_loop [5, 7] (fun r c => ∃ m y : Nat, m ≤ 8 ∧ c = .int .i64 m ∧ r = .int .u32 y ∧ y ≤ 4294967295 ∧ Hid (y = Pl.stepN m x)) (fun _ c => 8 - (intOf c).toNat)
      case atStart => exact ⟨0, x, by omega, rfl, rfl, by omega, rfl⟩
      case round =>
        obtain ⟨m, y, hm, rfl, rfl, hy, hst⟩ := hrel
        by_cases hm8 : m < 8
        · rcases Nat.mod_two_eq_zero_or_one y with h2 | h2
          · have hs := Lib.hid (step_even h2)
            have ht : ((y : Int) % 2 == 1) = false := by rw [beq_eq_false_iff_ne]; omega
            clear h2
            go_wp2
            go_round
            case rel => exact ⟨m + 1, y / 2, by omega, by go_num, rfl, by omega, by show _ = Pl.step1 _; rw [← hst.out, hs.out]⟩
            case measure => (simp [intOf]; try omega)
          · have hx := xor_poly (r := y) (by omega)
            have hs := Lib.hid (step_odd h2)
            have ht : ((y : Int) % 2 == 1) = true := by rw [beq_iff_eq]; omega
            clear h2
            have hlt2 := Pl.step1_lt (r := y) (by omega)
            rw [hs.out] at hlt2
            go_wp2
            go_round
            case rel => exact ⟨m + 1, _, by omega, by go_num, rfl, by omega, by show _ = Pl.step1 _; rw [← hst.out, hs.out]⟩
            case measure => (simp [intOf]; try omega)
        · have h8 : Hid (y = Pl.crcL (Pl.not32 n) (s.data.toList.take (j + 1))) := by
            show _ = _
            rw [← hs2.out, hst.out, show m = 8 by omega]
          clear hst
          go_wp2
          go_round
          case rel => exact ⟨j + 1, y, by omega, by go_num, rfl, by omega, h8⟩
          case measure => (simp [intOf]; try omega)
    · have hfin : Hid (Pl.not32 q = Pl.more n s.data.toList) := by
        show _ = _
        rw [hst.out, show j = s.size by omega, take_all]; rfl
      have hnot := not_bits hq
      clear hst
      go_wp2
      go_ret
      exact ⟨by rw [← hfin.out]; rfl, rfl⟩

theorem refCrc_any (s : ByteArray) (w : World) (hs : s.size ≤ maxLen) :
    Calls Tryz.prog 56 #[.string s] w fun e w' => e = .returned (.int .u32 (Pl.crc s.data.toList)) ∧ w = w' := by
  go_enter Tryz.func56, Tryz.ntmps56
  go_wp2_with fail
  refine (refMore_any 0 s _ (by omega) hs).mono ?_
  rintro e w1 ⟨rfl, rfl⟩
  go_wp2
  go_ret
  exact ⟨rfl, rfl⟩

end Go.Proofs.YtfbjmhipjfjaeaaGreatDoor
