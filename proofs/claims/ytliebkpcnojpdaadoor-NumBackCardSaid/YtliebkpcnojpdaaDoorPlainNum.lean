/- Plain laws on numbers: the sum of CRC-32 as a function on lists of bytes; numbers out of bytes. No program is in sight. -/
import Derived.PlainAid
namespace Go.Proofs.YtliebkpcnojpdaaDoor.Pl

/-! ### The sum -/
def poly : Nat := 3988292384
def step1 (r : Nat) : Nat := if r % 2 = 1 then (r / 2) ^^^ 3988292384 else r / 2
def stepN : Nat → Nat → Nat
  | 0, r => r
  | k + 1, r => step1 (stepN k r)
def upd (r c : Nat) : Nat := stepN 8 (r ^^^ c)
def crcL (r : Nat) (l : List UInt8) : Nat := l.foldl (fun r c => upd r c.toNat) r
def not32 (r : Nat) : Nat := 4294967295 - r
def more (s : Nat) (l : List UInt8) : Nat := not32 (crcL (not32 s) l)
def crc (l : List UInt8) : Nat := more 0 l

theorem step1_lt {r : Nat} (h : r < 4294967296) : step1 r < 4294967296 := by
  unfold step1
  split
  · exact Nat.xor_lt_two_pow (n := 32) (by omega) (by omega)
  · omega
theorem stepN_lt (k : Nat) {r : Nat} (h : r < 4294967296) : stepN k r < 4294967296 := by
  induction k with
  | zero => exact h
  | succ k ih => exact step1_lt ih
theorem xor_mod2 (a b : Nat) : (a ^^^ b) % 2 = (a % 2 + b % 2) % 2 := by
  have h := Nat.testBit_xor (x := a) (y := b) (i := 0)
  simp only [Nat.testBit_zero] at h
  rcases Nat.mod_two_eq_zero_or_one a with ha | ha <;> rcases Nat.mod_two_eq_zero_or_one b with hb | hb <;> rcases Nat.mod_two_eq_zero_or_one (a ^^^ b) with hc | hc <;> simp_all
theorem xor_div2 (a b : Nat) : (a ^^^ b) / 2 = (a / 2) ^^^ (b / 2) := by
  have h := Nat.xor_div_two_pow (a := a) (b := b) (n := 1)
  simpa using h
theorem xor_swap (p q m : Nat) : (p ^^^ m) ^^^ q = (p ^^^ q) ^^^ m := by rw [Nat.xor_assoc, Nat.xor_comm m q, ← Nat.xor_assoc]
theorem step1_xor (a b : Nat) : step1 (a ^^^ b) = step1 a ^^^ step1 b := by
  unfold step1
  have h := xor_mod2 a b
  rw [xor_div2]
  rcases Nat.mod_two_eq_zero_or_one a with ha | ha <;> rcases Nat.mod_two_eq_zero_or_one b with hb | hb <;> rw [ha, hb] at h <;> simp only [ha, hb, h] <;> simp
  · exact (Nat.xor_assoc _ _ _)
  · exact (xor_swap _ _ _).symm
  · rw [Nat.xor_assoc, Nat.xor_comm (b / 2), ← Nat.xor_assoc 3988292384, Nat.xor_self, Nat.zero_xor]
theorem stepN_xor (k a b : Nat) : stepN k (a ^^^ b) = stepN k a ^^^ stepN k b := by
  induction k with
  | zero => rfl
  | succ k ih => simp only [stepN, ih, step1_xor]
theorem stepN_high (k : Nat) : ∀ q : Nat, stepN k (2 ^ k * q) = q := by
  induction k with
  | zero => intro q; simp [stepN]
  | succ k ih =>
    intro q
    have e : 2 ^ (k + 1) * q = 2 ^ k * (2 * q) := by rw [Nat.pow_succ, Nat.mul_assoc]
    simp only [stepN]
    rw [e, ih]
    simp [step1]
theorem split256 (r : Nat) : r = (r % 256) ^^^ (2 ^ 8 * (r / 256)) := by
  apply Nat.eq_of_testBit_eq
  intro i
  have e1 : (r % 256).testBit i = (decide (i < 8) && r.testBit i) := Nat.testBit_mod_two_pow r 8 i
  have e2 : (2 ^ 8 * (r / 256)).testBit i = (decide (8 ≤ i) && (r / 256).testBit (i - 8)) := Nat.testBit_two_pow_mul
  have e3 : (r / 256).testBit (i - 8) = r.testBit (8 + (i - 8)) := by
    have h : (r / 2 ^ 8).testBit (i - 8) = r.testBit ((i - 8) + 8) := Nat.testBit_div_two_pow r (i - 8)
    rw [Nat.add_comm]; exact h
  rw [Nat.testBit_xor, e1, e2, e3]
  by_cases h : i < 8
  · simp [h, show ¬ 8 ≤ i by omega]
  · simp [h, show 8 ≤ i by omega, show 8 + (i - 8) = i by omega]
theorem upd_table (r c : Nat) : stepN 8 ((r % 256) ^^^ c) ^^^ (r / 256) = upd r c := by
  unfold upd
  conv => rhs; rw [split256 r]
  rw [xor_swap, stepN_xor 8 (r % 256 ^^^ c) (2 ^ 8 * (r / 256)), stepN_high]
theorem upd_lt {r c : Nat} (h : r < 4294967296) (hc : c < 256) : upd r c < 4294967296 :=
  stepN_lt 8 (Nat.xor_lt_two_pow (n := 32) (by omega) (by omega))
theorem crcL_lt (l : List UInt8) : ∀ {r : Nat}, r < 4294967296 → crcL r l < 4294967296 := by
  induction l with
  | nil => intro r h; exact h
  | cons c l ih => intro r h; exact ih (upd_lt h c.toNat_lt)
theorem crcL_snoc (r : Nat) (l : List UInt8) (c : UInt8) : crcL r (l ++ [c]) = upd (crcL r l) c.toNat := by simp [crcL]
theorem crcL_append (r : Nat) (a b : List UInt8) : crcL r (a ++ b) = crcL (crcL r a) b := by simp [crcL]
theorem not32_lt (r : Nat) : not32 r < 4294967296 := by unfold not32; omega
theorem not32_not32 {r : Nat} (h : r < 4294967296) : not32 (not32 r) = r := by unfold not32; omega
theorem more_lt (s : Nat) (l : List UInt8) : more s l < 4294967296 := not32_lt _
theorem more_crc (a b : List UInt8) : more (crc a) b = crc (a ++ b) := by
  unfold crc more
  rw [not32_not32 (crcL_lt _ (not32_lt _)), crcL_append]

/-! ### One byte more or less makes another sum -/
theorem xor_cancel {a b c : Nat} (h : a ^^^ c = b ^^^ c) : a = b := by
  have := congrArg (· ^^^ c) h
  simpa [Nat.xor_assoc] using this
theorem top_of {q : Nat} (h : q < 2147483648) : 2147483648 ≤ q ^^^ 3988292384 := by
  have e : (q ^^^ 3988292384).testBit 31 = true := by
    rw [Nat.testBit_xor, Nat.testBit_lt_two_pow (x := q) (i := 31) (by omega)]
    decide
  refine Decidable.byContradiction fun hn => ?_
  rw [Nat.testBit_lt_two_pow (i := 31) (by omega)] at e
  cases e
theorem step1_inj {a b : Nat} (ha : a < 4294967296) (hb : b < 4294967296) (h : step1 a = step1 b) : a = b := by
  unfold step1 at h
  split at h <;> split at h
  · have := xor_cancel h; omega
  · have := top_of (q := a / 2) (by omega); omega
  · have := top_of (q := b / 2) (by omega); omega
  · omega
theorem stepN_inj (k : Nat) {a b : Nat} (ha : a < 4294967296) (hb : b < 4294967296) (h : stepN k a = stepN k b) : a = b := by
  induction k with
  | zero => exact h
  | succ k ih => exact ih (step1_inj (stepN_lt k ha) (stepN_lt k hb) h)
theorem upd_inj {a b c : Nat} (ha : a < 4294967296) (hb : b < 4294967296) (hc : c < 256) (h : upd a c = upd b c) : a = b :=
  xor_cancel (stepN_inj 8 (Nat.xor_lt_two_pow (n := 32) (by omega) (by omega)) (Nat.xor_lt_two_pow (n := 32) (by omega) (by omega)) h)
theorem upd_inj' {r c d : Nat} (hr : r < 4294967296) (hc : c < 256) (hd : d < 256) (h : upd r c = upd r d) : c = d := by
  have h2 := stepN_inj 8 (Nat.xor_lt_two_pow (n := 32) (by omega) (by omega)) (Nat.xor_lt_two_pow (n := 32) (by omega) (by omega)) h
  rw [Nat.xor_comm r c, Nat.xor_comm r d] at h2
  exact xor_cancel h2
theorem crcL_inj (l : List UInt8) : ∀ {a b : Nat}, a < 4294967296 → b < 4294967296 → crcL a l = crcL b l → a = b := by
  induction l with
  | nil => intro a b _ _ h; exact h
  | cons c l ih => intro a b ha hb h; exact upd_inj ha hb c.toNat_lt (ih (upd_lt ha c.toNat_lt) (upd_lt hb c.toNat_lt) h)
theorem crc_spoilt (p q : List UInt8) (c d : UInt8) (h : c ≠ d) : crc (p ++ c :: q) ≠ crc (p ++ d :: q) := by
  intro e
  unfold crc more at e
  have l1 := crcL_lt (p ++ c :: q) (not32_lt 0)
  have l2 := crcL_lt (p ++ d :: q) (not32_lt 0)
  have e1 : crcL (not32 0) (p ++ c :: q) = crcL (not32 0) (p ++ d :: q) := by
    unfold not32 at *; omega
  rw [crcL_append, crcL_append] at e1
  have lp := crcL_lt p (not32_lt 0)
  have e2 : upd (crcL (not32 0) p) c.toNat = upd (crcL (not32 0) p) d.toNat := crcL_inj q (upd_lt lp c.toNat_lt) (upd_lt lp d.toNat_lt) e1
  exact h (UInt8.toNat_inj.1 (upd_inj' lp c.toNat_lt d.toNat_lt e2))

/-! ### Bytes as a number, the lowest first -/
def num : List UInt8 → Nat
  | [] => 0
  | c :: l => c.toNat + 256 * num l
theorem num_append (a b : List UInt8) : num (a ++ b) = num a + 2 ^ (8 * a.length) * num b := by
  induction a with
  | nil => simp [num]
  | cons c a ih =>
    have e : 2 ^ (8 * (c :: a).length) = 256 * 2 ^ (8 * a.length) := by rw [List.length_cons, Nat.mul_add, Nat.pow_add]; simp [Nat.mul_comm]
    rw [List.cons_append, num, num, ih, e, Nat.mul_add, Nat.mul_assoc, Nat.add_assoc]
theorem num_lt (l : List UInt8) : num l < 2 ^ (8 * l.length) := by
  induction l with
  | nil => simp [num]
  | cons c l ih =>
    have e : 2 ^ (8 * (c :: l).length) = 256 * 2 ^ (8 * l.length) := by rw [List.length_cons, Nat.mul_add, Nat.pow_add]; simp [Nat.mul_comm]
    have := c.toNat_lt
    rw [num, e]; omega
theorem num_snoc (l : List UInt8) (c : UInt8) : num (l ++ [c]) = num l + 2 ^ (8 * l.length) * c.toNat := by rw [num_append]; simp [num]
theorem num_or (l : List UInt8) (c : UInt8) : num l ||| (c.toNat * 2 ^ (8 * l.length)) = num (l ++ [c]) := by
  rw [num_snoc, Nat.mul_comm c.toNat, Nat.or_comm, ← Nat.two_pow_add_eq_or_of_lt (num_lt l), Nat.add_comm]
theorem num_lt8 {l : List UInt8} (h : l.length ≤ 8) : num l < 18446744073709551616 := by
  have h1 := num_lt l
  have h2 : 2 ^ (8 * l.length) ≤ 2 ^ 64 := Nat.pow_le_pow_right (by omega) (by omega)
  omega

/-! ### A number as so many bytes, the lowest first -/
def fixL (n k : Nat) : List UInt8 := (List.range k).map fun j => UInt8.ofNat (n / 2 ^ (8 * j))
theorem fixL_succ (n j : Nat) : fixL n (j + 1) = fixL n j ++ [UInt8.ofNat (n / 2 ^ (8 * j))] := by
  simp [fixL, List.range_succ]
theorem fixL_length (n j : Nat) : (fixL n j).length = j := by simp [fixL]
theorem div_step (n j : Nat) : n / 2 ^ (8 * (j + 1)) = n / 2 ^ (8 * j) / 256 := by
  rw [Nat.div_div_eq_div_mul, Nat.mul_add, Nat.pow_add]
theorem num_fixL (n k : Nat) : num (fixL n k) = n % 2 ^ (8 * k) := by
  induction k with
  | zero => simp [fixL, num, Nat.mod_one]
  | succ k ih =>
    rw [fixL_succ, num_snoc, ih, fixL_length, UInt8.toNat_ofNat']
    have e : 2 ^ (8 * (k + 1)) = 2 ^ (8 * k) * 256 := by rw [Nat.mul_add, Nat.pow_add]
    rw [e, Nat.mod_mul]
theorem num_inj : ∀ {a b : List UInt8}, a.length = b.length → num a = num b → a = b
  | [], [], _, _ => rfl
  | [], _ :: _, h, _ => by simp at h
  | _ :: _, [], h, _ => by simp at h
  | x :: a, y :: b, h, e => by
    have hx := x.toNat_lt
    have hy := y.toNat_lt
    simp only [num] at e
    have e1 : x.toNat = y.toNat := by omega
    have e2 : num a = num b := by omega
    rw [UInt8.toNat_inj.1 e1, num_inj (by simpa using h) e2]
theorem fixL_num (l : List UInt8) : fixL (num l) l.length = l := by
  apply num_inj (by rw [fixL_length])
  rw [num_fixL, Nat.mod_eq_of_lt (num_lt l)]
theorem fixL_eq {x k : Nat} {l : List UInt8} (hl : l.length = k) (hx : x < 2 ^ (8 * k)) : fixL x k = l ↔ x = num l := by
  constructor
  · intro h; rw [← h, num_fixL, Nat.mod_eq_of_lt hx]
  · rintro rfl; rw [← hl, fixL_num]
end Go.Proofs.YtliebkpcnojpdaaDoor.Pl
