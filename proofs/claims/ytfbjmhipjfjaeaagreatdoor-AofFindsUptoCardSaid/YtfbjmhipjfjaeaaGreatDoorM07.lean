/- Plain laws on numbers: the sum of CRC-32 as a function on lists of bytes; numbers out of bytes. No program is in sight. Plain laws on groups as bytes. No program is in sight. Plain laws on scanning groups. No program is in sight. Plain laws on rows of groups: what the scan tells of groups in their order, and of what stands behind them. No program is in sight. -/
import Derived.PlainAid
namespace Go.Proofs.YtfbjmhipjfjaeaaGreatDoor.Pl

/-! ### The sum -/
def poly : Nat := 3988292384
def step1 (r : Nat) : Nat := if r % 2 = 1 then (r / 2) ^^^ 3988292384 else r / 2
def stepN : Nat → Nat → Nat
  | 0, r => r
  | k + 1, r => step1 (stepN k r)
def upd (r c : Nat) : Nat := stepN 8 (r ^^^ c)
def crcL (r : Nat) (l : List UInt8) : Nat := l.foldl (fun r c => upd r c.toNat) r
def not32 (r : Nat) : Nat := 4294967295 - r
def more (s : Nat) (l : List UInt8) : Nat := not32 (crcL (not32 s) l)
def crc (l : List UInt8) : Nat := more 0 l

theorem step1_lt {r : Nat} (h : r < 4294967296) : step1 r < 4294967296 := by
  unfold step1
  split
  · exact Nat.xor_lt_two_pow (n := 32) (by omega) (by omega)
  · omega
theorem stepN_lt (k : Nat) {r : Nat} (h : r < 4294967296) : stepN k r < 4294967296 := by
  induction k with
  | zero => exact h
  | succ k ih => exact step1_lt ih
theorem xor_mod2 (a b : Nat) : (a ^^^ b) % 2 = (a % 2 + b % 2) % 2 := by
  have h := Nat.testBit_xor (x := a) (y := b) (i := 0)
  simp only [Nat.testBit_zero] at h
  rcases Nat.mod_two_eq_zero_or_one a with ha | ha <;> rcases Nat.mod_two_eq_zero_or_one b with hb | hb <;> rcases Nat.mod_two_eq_zero_or_one (a ^^^ b) with hc | hc <;> simp_all
theorem xor_div2 (a b : Nat) : (a ^^^ b) / 2 = (a / 2) ^^^ (b / 2) := by
  have h := Nat.xor_div_two_pow (a := a) (b := b) (n := 1)
  simpa using h
theorem xor_swap (p q m : Nat) : (p ^^^ m) ^^^ q = (p ^^^ q) ^^^ m := by rw [Nat.xor_assoc, Nat.xor_comm m q, ← Nat.xor_assoc]
theorem step1_xor (a b : Nat) : step1 (a ^^^ b) = step1 a ^^^ step1 b := by
  unfold step1
  have h := xor_mod2 a b
  rw [xor_div2]
  rcases Nat.mod_two_eq_zero_or_one a with ha | ha <;> rcases Nat.mod_two_eq_zero_or_one b with hb | hb <;> rw [ha, hb] at h <;> simp only [ha, hb, h] <;> simp
  · exact (Nat.xor_assoc _ _ _)
  · exact (xor_swap _ _ _).symm
  · rw [Nat.xor_assoc, Nat.xor_comm (b / 2), ← Nat.xor_assoc 3988292384, Nat.xor_self, Nat.zero_xor]
theorem stepN_xor (k a b : Nat) : stepN k (a ^^^ b) = stepN k a ^^^ stepN k b := by
  induction k with
  | zero => rfl
  | succ k ih => simp only [stepN, ih, step1_xor]
theorem stepN_high (k : Nat) : ∀ q : Nat, stepN k (2 ^ k * q) = q := by
  induction k with
  | zero => intro q; simp [stepN]
  | succ k ih =>
    intro q
    have e : 2 ^ (k + 1) * q = 2 ^ k * (2 * q) := by rw [Nat.pow_succ, Nat.mul_assoc]
    simp only [stepN]
    rw [e, ih]
    simp [step1]
theorem split256 (r : Nat) : r = (r % 256) ^^^ (2 ^ 8 * (r / 256)) := by
  apply Nat.eq_of_testBit_eq
  intro i
  have e1 : (r % 256).testBit i = (decide (i < 8) && r.testBit i) := Nat.testBit_mod_two_pow r 8 i
  have e2 : (2 ^ 8 * (r / 256)).testBit i = (decide (8 ≤ i) && (r / 256).testBit (i - 8)) := Nat.testBit_two_pow_mul
  have e3 : (r / 256).testBit (i - 8) = r.testBit (8 + (i - 8)) := by
    have h : (r / 2 ^ 8).testBit (i - 8) = r.testBit ((i - 8) + 8) := Nat.testBit_div_two_pow r (i - 8)
    rw [Nat.add_comm]; exact h
  rw [Nat.testBit_xor, e1, e2, e3]
  by_cases h : i < 8
  · simp [h, show ¬ 8 ≤ i by omega]
  · simp [h, show 8 ≤ i by omega, show 8 + (i - 8) = i by omega]
theorem upd_table (r c : Nat) : stepN 8 ((r % 256) ^^^ c) ^^^ (r / 256) = upd r c := by
  unfold upd
  conv => rhs; rw [split256 r]
  rw [xor_swap, stepN_xor 8 (r % 256 ^^^ c) (2 ^ 8 * (r / 256)), stepN_high]
theorem upd_lt {r c : Nat} (h : r < 4294967296) (hc : c < 256) : upd r c < 4294967296 :=
  stepN_lt 8 (Nat.xor_lt_two_pow (n := 32) (by omega) (by omega))
theorem crcL_lt (l : List UInt8) : ∀ {r : Nat}, r < 4294967296 → crcL r l < 4294967296 := by
  induction l with
  | nil => intro r h; exact h
  | cons c l ih => intro r h; exact ih (upd_lt h c.toNat_lt)
theorem crcL_snoc (r : Nat) (l : List UInt8) (c : UInt8) : crcL r (l ++ [c]) = upd (crcL r l) c.toNat := by simp [crcL]
theorem crcL_append (r : Nat) (a b : List UInt8) : crcL r (a ++ b) = crcL (crcL r a) b := by simp [crcL]
theorem not32_lt (r : Nat) : not32 r < 4294967296 := by unfold not32; omega
theorem not32_not32 {r : Nat} (h : r < 4294967296) : not32 (not32 r) = r := by unfold not32; omega
theorem more_lt (s : Nat) (l : List UInt8) : more s l < 4294967296 := not32_lt _
theorem more_crc (a b : List UInt8) : more (crc a) b = crc (a ++ b) := by
  unfold crc more
  rw [not32_not32 (crcL_lt _ (not32_lt _)), crcL_append]

/-! ### One byte more or less makes another sum -/
theorem xor_cancel {a b c : Nat} (h : a ^^^ c = b ^^^ c) : a = b := by
  have := congrArg (· ^^^ c) h
  simpa [Nat.xor_assoc] using this
theorem top_of {q : Nat} (h : q < 2147483648) : 2147483648 ≤ q ^^^ 3988292384 := by
  have e : (q ^^^ 3988292384).testBit 31 = true := by
    rw [Nat.testBit_xor, Nat.testBit_lt_two_pow (x := q) (i := 31) (by omega)]
    decide
  refine Decidable.byContradiction fun hn => ?_
  rw [Nat.testBit_lt_two_pow (i := 31) (by omega)] at e
  cases e
theorem step1_inj {a b : Nat} (ha : a < 4294967296) (hb : b < 4294967296) (h : step1 a = step1 b) : a = b := by
  unfold step1 at h
  split at h <;> split at h
  · have := xor_cancel h; omega
  · have := top_of (q := a / 2) (by omega); omega
  · have := top_of (q := b / 2) (by omega); omega
  · omega
theorem stepN_inj (k : Nat) {a b : Nat} (ha : a < 4294967296) (hb : b < 4294967296) (h : stepN k a = stepN k b) : a = b := by
  induction k with
  | zero => exact h
  | succ k ih => exact ih (step1_inj (stepN_lt k ha) (stepN_lt k hb) h)
theorem upd_inj {a b c : Nat} (ha : a < 4294967296) (hb : b < 4294967296) (hc : c < 256) (h : upd a c = upd b c) : a = b :=
  xor_cancel (stepN_inj 8 (Nat.xor_lt_two_pow (n := 32) (by omega) (by omega)) (Nat.xor_lt_two_pow (n := 32) (by omega) (by omega)) h)
theorem upd_inj' {r c d : Nat} (hr : r < 4294967296) (hc : c < 256) (hd : d < 256) (h : upd r c = upd r d) : c = d := by
  have h2 := stepN_inj 8 (Nat.xor_lt_two_pow (n := 32) (by omega) (by omega)) (Nat.xor_lt_two_pow (n := 32) (by omega) (by omega)) h
  rw [Nat.xor_comm r c, Nat.xor_comm r d] at h2
  exact xor_cancel h2
theorem crcL_inj (l : List UInt8) : ∀ {a b : Nat}, a < 4294967296 → b < 4294967296 → crcL a l = crcL b l → a = b := by
  induction l with
  | nil => intro a b _ _ h; exact h
  | cons c l ih => intro a b ha hb h; exact upd_inj ha hb c.toNat_lt (ih (upd_lt ha c.toNat_lt) (upd_lt hb c.toNat_lt) h)
theorem crc_spoilt (p q : List UInt8) (c d : UInt8) (h : c ≠ d) : crc (p ++ c :: q) ≠ crc (p ++ d :: q) := by
  intro e
  unfold crc more at e
  have l1 := crcL_lt (p ++ c :: q) (not32_lt 0)
  have l2 := crcL_lt (p ++ d :: q) (not32_lt 0)
  have e1 : crcL (not32 0) (p ++ c :: q) = crcL (not32 0) (p ++ d :: q) := by
    unfold not32 at *; omega
  rw [crcL_append, crcL_append] at e1
  have lp := crcL_lt p (not32_lt 0)
  have e2 : upd (crcL (not32 0) p) c.toNat = upd (crcL (not32 0) p) d.toNat := crcL_inj q (upd_lt lp c.toNat_lt) (upd_lt lp d.toNat_lt) e1
  exact h (UInt8.toNat_inj.1 (upd_inj' lp c.toNat_lt d.toNat_lt e2))

/-! ### Bytes as a number, the lowest first -/
def num : List UInt8 → Nat
  | [] => 0
  | c :: l => c.toNat + 256 * num l
theorem num_append (a b : List UInt8) : num (a ++ b) = num a + 2 ^ (8 * a.length) * num b := by
  induction a with
  | nil => simp [num]
  | cons c a ih =>
    have e : 2 ^ (8 * (c :: a).length) = 256 * 2 ^ (8 * a.length) := by rw [List.length_cons, Nat.mul_add, Nat.pow_add]; simp [Nat.mul_comm]
    rw [List.cons_append, num, num, ih, e, Nat.mul_add, Nat.mul_assoc, Nat.add_assoc]
theorem num_lt (l : List UInt8) : num l < 2 ^ (8 * l.length) := by
  induction l with
  | nil => simp [num]
  | cons c l ih =>
    have e : 2 ^ (8 * (c :: l).length) = 256 * 2 ^ (8 * l.length) := by rw [List.length_cons, Nat.mul_add, Nat.pow_add]; simp [Nat.mul_comm]
    have := c.toNat_lt
    rw [num, e]; omega
theorem num_snoc (l : List UInt8) (c : UInt8) : num (l ++ [c]) = num l + 2 ^ (8 * l.length) * c.toNat := by rw [num_append]; simp [num]
theorem num_or (l : List UInt8) (c : UInt8) : num l ||| (c.toNat * 2 ^ (8 * l.length)) = num (l ++ [c]) := by
  rw [num_snoc, Nat.mul_comm c.toNat, Nat.or_comm, ← Nat.two_pow_add_eq_or_of_lt (num_lt l), Nat.add_comm]
theorem num_lt8 {l : List UInt8} (h : l.length ≤ 8) : num l < 18446744073709551616 := by
  have h1 := num_lt l
  have h2 : 2 ^ (8 * l.length) ≤ 2 ^ 64 := Nat.pow_le_pow_right (by omega) (by omega)
  omega

/-! ### A number as so many bytes, the lowest first -/
def fixL (n k : Nat) : List UInt8 := (List.range k).map fun j => UInt8.ofNat (n / 2 ^ (8 * j))
theorem fixL_succ (n j : Nat) : fixL n (j + 1) = fixL n j ++ [UInt8.ofNat (n / 2 ^ (8 * j))] := by
  simp [fixL, List.range_succ]
theorem fixL_length (n j : Nat) : (fixL n j).length = j := by simp [fixL]
theorem div_step (n j : Nat) : n / 2 ^ (8 * (j + 1)) = n / 2 ^ (8 * j) / 256 := by
  rw [Nat.div_div_eq_div_mul, Nat.mul_add, Nat.pow_add]
theorem num_fixL (n k : Nat) : num (fixL n k) = n % 2 ^ (8 * k) := by
  induction k with
  | zero => simp [fixL, num, Nat.mod_one]
  | succ k ih =>
    rw [fixL_succ, num_snoc, ih, fixL_length, UInt8.toNat_ofNat']
    have e : 2 ^ (8 * (k + 1)) = 2 ^ (8 * k) * 256 := by rw [Nat.mul_add, Nat.pow_add]
    rw [e, Nat.mod_mul]
theorem num_inj : ∀ {a b : List UInt8}, a.length = b.length → num a = num b → a = b
  | [], [], _, _ => rfl
  | [], _ :: _, h, _ => by simp at h
  | _ :: _, [], h, _ => by simp at h
  | x :: a, y :: b, h, e => by
    have hx := x.toNat_lt
    have hy := y.toNat_lt
    simp only [num] at e
    have e1 : x.toNat = y.toNat := by omega
    have e2 : num a = num b := by omega
    rw [UInt8.toNat_inj.1 e1, num_inj (by simpa using h) e2]
theorem fixL_num (l : List UInt8) : fixL (num l) l.length = l := by
  apply num_inj (by rw [fixL_length])
  rw [num_fixL, Nat.mod_eq_of_lt (num_lt l)]
theorem fixL_eq {x k : Nat} {l : List UInt8} (hl : l.length = k) (hx : x < 2 ^ (8 * k)) : fixL x k = l ↔ x = num l := by
  constructor
  · intro h; rw [← h, num_fixL, Nat.mod_eq_of_lt hx]
  · rintro rfl; rw [← hl, fixL_num]
end Go.Proofs.YtfbjmhipjfjaeaaGreatDoor.Pl

namespace Go.Proofs.YtfbjmhipjfjaeaaGreatDoor.Pl

def maxG : Nat := 1073741824
def front (len n : Nat) : List UInt8 := fixL len 8 ++ fixL n 8
def tail (n : Nat) (body : List UInt8) : List UInt8 := fixL (crc (fixL n 8 ++ body)) 4 ++ [10]
/-- The bytes of a group. -/
def encL (n : Nat) (body : List UInt8) : List UInt8 := front body.length n ++ (fixL (crc (front body.length n)) 4 ++ (body ++ tail n body))
def okG (n : Nat) (body : List UInt8) : Bool := decide (n ≠ 0 ∧ body.length ≤ maxG)

/-- What a reader tells: the number, the body, how many bytes, the error. -/
structure Got where
  num : Nat
  body : List UInt8
  used : Nat
  err : Nat
def Got.bad (e : Nat) : Got := ⟨0, [], 0, e⟩

def sizeOf (s : List UInt8) : Nat := num (s.take 8)
def numOf (s : List UInt8) : Nat := num ((s.drop 8).take 8)
def bodyOf (s : List UInt8) : List UInt8 := (s.drop 20).take (sizeOf s)
def headSum (s : List UInt8) : Bool := decide (fixL (crc (s.take 16)) 4 = (s.drop 16).take 4)
def bodySum (s : List UInt8) : Bool := decide (fixL (crc ((s.drop 8).take 8 ++ bodyOf s)) 4 = (s.drop (20 + sizeOf s)).take 4)
def dec (s : List UInt8) : Got :=
  if s.length < 20 then .bad 251
  else if headSum s = false then .bad 252
  else if numOf s = 0 ∨ maxG < sizeOf s then .bad 250
  else if s.length < 25 + sizeOf s then .bad 251
  else if bodySum s = false ∨ s.getD (24 + sizeOf s) 0 ≠ 10 then .bad 252
  else ⟨numOf s, bodyOf s, 25 + sizeOf s, 0⟩

theorem front_length (a b : Nat) : (front a b).length = 16 := by simp [front, fixL_length]
theorem tail_length (n : Nat) (b : List UInt8) : (tail n b).length = 5 := by simp [tail, fixL_length]
theorem encL_length (n : Nat) (b : List UInt8) : (encL n b).length = 25 + b.length := by
  simp [encL, front_length, tail_length, fixL_length]; omega

theorem take_front {a b : List UInt8} {k : Nat} (h : a.length = k) : (a ++ b).take k = a := by subst h; simp
theorem drop_front {a b : List UInt8} {k : Nat} (h : a.length = k) : (a ++ b).drop k = b := by subst h; simp

section
variable {n : Nat} {b : List UInt8} (x : List UInt8)
/-- A text that begins as a group does, up to its 16 first bytes. -/
theorem size_of_front (hb : b.length ≤ maxG) : sizeOf (front b.length n ++ x) = b.length := by
  unfold sizeOf front
  rw [List.append_assoc, take_front (fixL_length _ _), num_fixL, Nat.mod_eq_of_lt]
  unfold maxG at hb; omega
theorem num_of_front (hn : n < 18446744073709551616) : numOf (front b.length n ++ x) = n := by
  unfold numOf front
  rw [List.append_assoc, drop_front (fixL_length _ _), take_front (fixL_length _ _), num_fixL, Nat.mod_eq_of_lt]
  omega
theorem num8_of_front : ((front b.length n ++ x).drop 8).take 8 = fixL n 8 := by
  unfold front
  rw [List.append_assoc, drop_front (fixL_length _ _), take_front (fixL_length _ _)]
theorem headSum_of {y : List UInt8} (hy : y.length = 4) : headSum (front b.length n ++ (y ++ x)) = decide (fixL (crc (front b.length n)) 4 = y) := by
  unfold headSum
  rw [take_front (front_length _ _), drop_front (front_length _ _), take_front hy]
theorem drop20_of {y : List UInt8} (hy : y.length = 4) : (front b.length n ++ (y ++ x)).drop 20 = x := by
  rw [← List.append_assoc, drop_front (by simp [front_length, hy])]
end

theorem dec_back {n : Nat} {b : List UInt8} (hn0 : n ≠ 0) (hn : n < 18446744073709551616) (hb : b.length ≤ maxG) (x : List UInt8) :
    dec (encL n b ++ x) = ⟨n, b, 25 + b.length, 0⟩ := by
  have hlen : (encL n b ++ x).length = 25 + b.length + x.length := by rw [List.length_append, encL_length]
  have e : encL n b ++ x = front b.length n ++ (fixL (crc (front b.length n)) 4 ++ (b ++ (tail n b ++ x))) := by simp [encL]
  have hs : sizeOf (encL n b ++ x) = b.length := by rw [e]; exact size_of_front _ hb
  have hnum : numOf (encL n b ++ x) = n := by rw [e]; exact num_of_front _ hn
  have hh : headSum (encL n b ++ x) = true := by rw [e, headSum_of _ (fixL_length _ _)]; simp
  have hbody : bodyOf (encL n b ++ x) = b := by
    unfold bodyOf
    rw [hs, e, drop20_of _ (fixL_length _ _), take_front rfl]
  have hd : (encL n b ++ x).drop (20 + b.length) = tail n b ++ x := by
    rw [← List.drop_drop, e, drop20_of _ (fixL_length _ _), drop_front rfl]
  have hbs : bodySum (encL n b ++ x) = true := by
    unfold bodySum
    rw [hbody, hs, hd]
    have h8 : ((encL n b ++ x).drop 8).take 8 = fixL n 8 := by rw [e]; exact num8_of_front _
    rw [h8]
    unfold tail
    rw [List.append_assoc, take_front (fixL_length _ _)]
    simp
  have hlast : (encL n b ++ x).getD (24 + b.length) 0 = 10 := by
    have : (encL n b ++ x).getD (20 + b.length + 4) 0 = (tail n b ++ x).getD 4 0 := by
      rw [← hd]; simp [List.getD, List.getElem?_drop]
    rw [show 24 + b.length = 20 + b.length + 4 by omega, this]
    unfold tail
    simp [List.getD, fixL_length]
  unfold dec
  rw [if_neg (by omega), if_neg (by rw [hh]; simp), hnum, hs, if_neg (by simp only [hn0, false_or]; omega), if_neg (by omega), hbs, hlast, hbody]
  simp

theorem dec_torn {n : Nat} {b : List UInt8} (hn0 : n ≠ 0) (hn : n < 18446744073709551616) (hb : b.length ≤ maxG) {k : Nat} (hk : k < (encL n b).length) :
    dec ((encL n b).take k) = .bad 251 := by
  rw [encL_length] at hk
  have hlen : ((encL n b).take k).length = k := by rw [List.length_take, encL_length]; omega
  unfold dec
  by_cases h20 : k < 20
  · rw [if_pos (by omega)]
  · have e : (encL n b).take k = front b.length n ++ (fixL (crc (front b.length n)) 4 ++ (b ++ tail n b).take (k - 20)) := by
      unfold encL
      rw [List.take_append, List.take_of_length_le (by rw [front_length]; omega), front_length, List.take_append, List.take_of_length_le (by rw [fixL_length]; omega), fixL_length]
      congr 3
    have hs : sizeOf ((encL n b).take k) = b.length := by rw [e]; exact size_of_front _ hb
    have hnum : numOf ((encL n b).take k) = n := by rw [e]; exact num_of_front _ hn
    have hh : headSum ((encL n b).take k) = true := by rw [e, headSum_of _ (fixL_length _ _)]; simp
    rw [if_neg (by omega), if_neg (by rw [hh]; simp), hnum, hs, if_neg (by simp only [hn0, false_or]; omega), if_pos (by omega)]


/-! ### One byte of a group is another one -/
theorem crc_set {l : List UInt8} {k : Nat} {v : UInt8} (hk : k < l.length) (hv0 : l[k]? ≠ some v) : crc (l.set k v) ≠ crc l := by
  have hv : l[k] ≠ v := fun h => hv0 (by rw [List.getElem?_eq_getElem hk, h])
  have e1 : l.set k v = l.take k ++ v :: l.drop (k + 1) := List.set_eq_take_append_cons_drop.trans (if_pos hk)
  have e2 : l = l.take k ++ l[k] :: l.drop (k + 1) := by
    rw [← List.drop_eq_getElem_cons hk, List.take_append_drop]
  rw [e1]
  conv => rhs; rw [e2]
  exact crc_spoilt _ _ _ _ (fun h => hv h.symm)
theorem fix4_inj {a b : Nat} (ha : a < 4294967296) (hb : b < 4294967296) (h : fixL a 4 = fixL b 4) : a = b := by
  have := congrArg num h
  rw [num_fixL, num_fixL] at this
  omega
theorem crc_lt (l : List UInt8) : crc l < 4294967296 := more_lt 0 l
theorem set_ne {l : List UInt8} {k : Nat} {v : UInt8} (hk : k < l.length) (hv : l[k]? ≠ some v) : l.set k v ≠ l := by
  intro h
  rw [← h] at hv
  exact hv (List.getElem?_set_self hk)

theorem dec_badHead {A B R : List UInt8} (hA : A.length = 16) (hB : B.length = 4) (h : fixL (crc A) 4 ≠ B) : dec (A ++ (B ++ R)) = .bad 252 := by
  have hl : ¬ (A ++ (B ++ R)).length < 20 := by simp; omega
  have hs : headSum (A ++ (B ++ R)) = false := by
    unfold headSum
    rw [take_front hA, drop_front hA, take_front hB]
    simpa using h
  unfold dec
  rw [if_neg hl, if_pos hs]

theorem dec_badBody {n : Nat} {b C D : List UInt8} {e : UInt8} (hn0 : n ≠ 0) (hn : n < 18446744073709551616) (hb : b.length ≤ maxG) (hC : C.length = b.length) (hD : D.length = 4)
    (h : fixL (crc (fixL n 8 ++ C)) 4 ≠ D ∨ e ≠ 10) :
    dec (front b.length n ++ (fixL (crc (front b.length n)) 4 ++ (C ++ (D ++ [e])))) = .bad 252 := by
  have hlen : (front b.length n ++ (fixL (crc (front b.length n)) 4 ++ (C ++ (D ++ [e])))).length = 25 + b.length := by
    simp [front_length, fixL_length]; omega
  have hs := size_of_front (n := n) (fixL (crc (front b.length n)) 4 ++ (C ++ (D ++ [e]))) hb
  have hnum := num_of_front (n := n) (b := b) (fixL (crc (front b.length n)) 4 ++ (C ++ (D ++ [e]))) hn
  have hh : headSum (front b.length n ++ (fixL (crc (front b.length n)) 4 ++ (C ++ (D ++ [e])))) = true := by rw [headSum_of _ (fixL_length _ _)]; simp
  have h8 := num8_of_front (n := n) (b := b) (fixL (crc (front b.length n)) 4 ++ (C ++ (D ++ [e])))
  have h20 := drop20_of (n := n) (b := b) (C ++ (D ++ [e])) (y := fixL (crc (front b.length n)) 4) (fixL_length _ _)
  generalize front b.length n ++ (fixL (crc (front b.length n)) 4 ++ (C ++ (D ++ [e]))) = s at *
  have hbody : bodyOf s = C := by unfold bodyOf; rw [hs, h20, take_front hC]
  have hd : s.drop (20 + b.length) = D ++ [e] := by rw [← List.drop_drop, h20, drop_front hC]
  have hbs : bodySum s = decide (fixL (crc (fixL n 8 ++ C)) 4 = D) := by
    unfold bodySum
    rw [hbody, hs, hd, h8, take_front hD]
  have hlast : s.getD (24 + b.length) 0 = e := by
    have : s.getD (20 + b.length + 4) 0 = (D ++ [e]).getD 4 0 := by rw [← hd]; simp [List.getD, List.getElem?_drop]
    rw [show 24 + b.length = 20 + b.length + 4 by omega, this]
    simp [List.getD, hD]
  unfold dec
  rw [if_neg (by omega), if_neg (by rw [hh]; simp), hnum, hs, if_neg (by simp only [hn0, false_or]; omega), if_neg (by omega), hbs, hlast, if_pos (by simpa using h)]

theorem dec_spoilt {n : Nat} {b : List UInt8} (hn0 : n ≠ 0) (hn : n < 18446744073709551616) (hb : b.length ≤ maxG) {k : Nat} {v : UInt8} (hk : k < (encL n b).length) (hv : (encL n b)[k]? ≠ some v) :
    dec ((encL n b).set k v) = .bad 252 := by
  have hL := encL_length n b
  have h16 := front_length b.length n
  have hS := fixL_length (crc (front b.length n)) 4
  have hT := fixL_length (crc (fixL n 8 ++ b)) 4
  by_cases k1 : k < 16
  · have e : (encL n b).set k v = (front b.length n).set k v ++ (fixL (crc (front b.length n)) 4 ++ (b ++ tail n b)) := by
      unfold encL; rw [List.set_append_left _ _ (by omega)]
    have hv' : (front b.length n)[k]? ≠ some v := by
      rw [← List.getElem?_append_left (l₂ := fixL (crc (front b.length n)) 4 ++ (b ++ tail n b)) (by omega)]; exact hv
    rw [e]
    refine dec_badHead (by simp [h16]) hS fun h => ?_
    exact crc_set (by omega) hv' (fix4_inj (crc_lt _) (crc_lt _) h)
  by_cases k2 : k < 20
  · have e : (encL n b).set k v = front b.length n ++ ((fixL (crc (front b.length n)) 4).set (k - 16) v ++ (b ++ tail n b)) := by
      unfold encL; rw [List.set_append_right _ _ (by omega), h16, List.set_append_left _ _ (by omega)]
    have hv' : (fixL (crc (front b.length n)) 4)[k - 16]? ≠ some v := by
      have h := hv
      unfold encL at h
      rwa [List.getElem?_append_right (by omega), h16, List.getElem?_append_left (by omega)] at h
    rw [e]
    refine dec_badHead h16 (by simp [hS]) fun h => ?_
    exact set_ne (by omega) hv' h.symm
  by_cases k3 : k < 20 + b.length
  · have e : (encL n b).set k v = front b.length n ++ (fixL (crc (front b.length n)) 4 ++ (b.set (k - 20) v ++ (fixL (crc (fixL n 8 ++ b)) 4 ++ [10]))) := by
      unfold encL tail
      rw [List.set_append_right _ _ (by omega), h16, List.set_append_right _ _ (by omega), hS, List.set_append_left _ _ (by omega), show k - 16 - 4 = k - 20 by omega]
    have hv' : b[k - 20]? ≠ some v := by
      have h := hv
      unfold encL at h
      rwa [List.getElem?_append_right (by omega), h16, List.getElem?_append_right (by omega), hS, List.getElem?_append_left (by omega), show k - 16 - 4 = k - 20 by omega] at h
    rw [e]
    refine dec_badBody hn0 hn hb (by simp) hT (.inl fun h => ?_)
    have h2 := fix4_inj (crc_lt _) (crc_lt _) h
    have e2 : fixL n 8 ++ b.set (k - 20) v = (fixL n 8 ++ b).set (8 + (k - 20)) v := by
      rw [List.set_append_right _ _ (by rw [fixL_length]; omega), fixL_length]; simp
    rw [e2] at h2
    refine crc_set (by simp [fixL_length]; omega) ?_ h2
    rw [List.getElem?_append_right (by rw [fixL_length]; omega), fixL_length, show 8 + (k - 20) - 8 = k - 20 by omega]
    exact hv'
  by_cases k4 : k < 24 + b.length
  · have e : (encL n b).set k v = front b.length n ++ (fixL (crc (front b.length n)) 4 ++ (b ++ ((fixL (crc (fixL n 8 ++ b)) 4).set (k - 20 - b.length) v ++ [10]))) := by
      unfold encL tail
      rw [List.set_append_right _ _ (by omega), h16, List.set_append_right _ _ (by omega), hS, List.set_append_right _ _ (by omega), List.set_append_left _ _ (by omega), show k - 16 - 4 - b.length = k - 20 - b.length by omega]
    have hv' : (fixL (crc (fixL n 8 ++ b)) 4)[k - 20 - b.length]? ≠ some v := by
      have h := hv
      unfold encL tail at h
      rwa [List.getElem?_append_right (by omega), h16, List.getElem?_append_right (by omega), hS, List.getElem?_append_right (by omega), List.getElem?_append_left (by omega), show k - 16 - 4 - b.length = k - 20 - b.length by omega] at h
    rw [e]
    exact dec_badBody hn0 hn hb rfl (by simp [hT]) (.inl fun h => set_ne (by omega) hv' h.symm)
  · have hk' : k = 24 + b.length := by omega
    have e : (encL n b).set k v = front b.length n ++ (fixL (crc (front b.length n)) 4 ++ (b ++ (fixL (crc (fixL n 8 ++ b)) 4 ++ [v]))) := by
      unfold encL tail
      rw [List.set_append_right _ _ (by omega), h16, List.set_append_right _ _ (by omega), hS, List.set_append_right _ _ (by omega), List.set_append_right _ _ (by omega), hT, show k - 16 - 4 - b.length - 4 = 0 by omega]
      rfl
    have hv' : (10 : UInt8) ≠ v := by
      have h := hv
      unfold encL tail at h
      rw [List.getElem?_append_right (by omega), h16, List.getElem?_append_right (by omega), hS, List.getElem?_append_right (by omega), List.getElem?_append_right (by omega), hT, show k - 16 - 4 - b.length - 4 = 0 by omega] at h
      simpa using h
    rw [e]
    exact dec_badBody hn0 hn hb rfl hT (.inr fun h => hv' h.symm)

end Go.Proofs.YtfbjmhipjfjaeaaGreatDoor.Pl

namespace Go.Proofs.YtfbjmhipjfjaeaaGreatDoor.Pl

abbrev Grp := Nat × List UInt8
/-- The last number. -/
def lastN : List Grp → Nat
  | [] => 0
  | [g] => g.1
  | _ :: l => lastN l
theorem lastN_snoc (l : List Grp) (g : Grp) : lastN (l ++ [g]) = g.1 := by
  induction l with
  | nil => rfl
  | cons a l ih =>
    rcases l with _ | ⟨b, l⟩
    · rfl
    · exact ih
theorem lastN_lt {l : List Grp} (h0 : l ≠ []) (h : ∀ g ∈ l, g.1 ≠ 0 ∧ g.1 < 18446744073709551616) : lastN l < 18446744073709551616 := by
  rw [← List.dropLast_concat_getLast h0, lastN_snoc]
  exact (h _ (List.getLast_mem h0)).2
structure Res where
  gs : List Grp
  pos : Nat
  why : Nat
def scanGo : Nat → List UInt8 → List Grp → Nat → Res
  | 0, _, acc, k => ⟨acc, k, 0⟩
  | f + 1, s, acc, k =>
    if s.length ≤ k then ⟨acc, k, 0⟩
    else if (dec (s.drop k)).err ≠ 0 then ⟨acc, k, (dec (s.drop k)).err⟩
    else if acc ≠ [] ∧ (dec (s.drop k)).num ≠ lastN acc + 1 then ⟨acc, k, 253⟩
    else scanGo f s (acc ++ [((dec (s.drop k)).num, (dec (s.drop k)).body)]) (k + (dec (s.drop k)).used)
def scan (s : List UInt8) : Res := scanGo (s.length + 1) s [] 0
/-- The scan stands at place k with these groups. -/
structure Scanning (s : List UInt8) (acc : List Grp) (k : Nat) : Prop where
  fits : k ≤ s.length
  many : 25 * acc.length ≤ k
  nums : ∀ g ∈ acc, g.1 ≠ 0 ∧ g.1 < 18446744073709551616
  goes : ∃ f, s.length - k < f ∧ scanGo f s acc k = scan s

theorem dec_ok {s : List UInt8} (h : (dec s).err = 0) : (dec s).num ≠ 0 ∧ (dec s).num < 18446744073709551616 ∧ (dec s).used = 25 + (dec s).body.length ∧ 25 + (dec s).body.length ≤ s.length := by
  unfold dec at h ⊢
  by_cases c1 : s.length < 20
  · rw [if_pos c1] at h; cases h
  rw [if_neg c1] at h ⊢
  by_cases c2 : headSum s = false
  · rw [if_pos c2] at h; cases h
  rw [if_neg c2] at h ⊢
  by_cases c3 : numOf s = 0 ∨ maxG < sizeOf s
  · rw [if_pos c3] at h; cases h
  rw [if_neg c3] at h ⊢
  by_cases c4 : s.length < 25 + sizeOf s
  · rw [if_pos c4] at h; cases h
  rw [if_neg c4] at h ⊢
  by_cases c5 : bodySum s = false ∨ s.getD (24 + sizeOf s) 0 ≠ 10
  · rw [if_pos c5] at h; cases h
  rw [if_neg c5]
  have hl : (bodyOf s).length = sizeOf s := by unfold bodyOf; rw [List.length_take, List.length_drop]; omega
  refine ⟨fun e => c3 (.inl e), num_lt8 ?_, ?_, ?_⟩
  · rw [List.length_take]; omega
  · show 25 + sizeOf s = 25 + (bodyOf s).length; rw [hl]
  · show 25 + (bodyOf s).length ≤ s.length; rw [hl]; omega
theorem dec_err_lt (s : List UInt8) : (dec s).err < 256 := by
  unfold dec
  repeat' split
  all_goals first | decide | exact (by decide : (0 : Nat) < 256)

theorem scanGo_many (s : List UInt8) : ∀ (f : Nat) (acc : List Grp) (k : Nat), k ≤ s.length → 25 * acc.length ≤ k → 25 * (scanGo f s acc k).gs.length ≤ (scanGo f s acc k).pos ∧ (scanGo f s acc k).pos ≤ s.length
  | 0, acc, k, hk, hm => ⟨hm, hk⟩
  | f + 1, acc, k, hk, hm => by
    unfold scanGo
    by_cases h1 : s.length ≤ k
    · rw [if_pos h1]; exact ⟨hm, hk⟩
    rw [if_neg h1]
    by_cases h2 : (dec (s.drop k)).err ≠ 0
    · rw [if_pos h2]; exact ⟨hm, hk⟩
    rw [if_neg h2]
    by_cases h3 : acc ≠ [] ∧ (dec (s.drop k)).num ≠ lastN acc + 1
    · rw [if_pos h3]; exact ⟨hm, hk⟩
    rw [if_neg h3]
    obtain ⟨o1, o2, o3, o4⟩ := dec_ok (s := s.drop k) (by omega)
    rw [List.length_drop] at o4
    exact scanGo_many s f _ _ (by omega) (by rw [List.length_append, List.length_singleton]; omega)
theorem scan_many (s : List UInt8) : 25 * (scan s).gs.length ≤ s.length :=
  have h := scanGo_many s (s.length + 1) [] 0 (Nat.zero_le _) (Nat.le_refl _)
  Nat.le_trans h.1 h.2

namespace Scanning
variable {s : List UInt8} {acc : List Grp} {k : Nat}
theorem start (s : List UInt8) : Scanning s [] 0 := ⟨Nat.zero_le _, Nat.le_refl _, fun g h => (List.not_mem_nil h).elim, _, (by omega), rfl⟩
theorem done (h : Scanning s acc k) (hk : s.length ≤ k) : scan s = ⟨acc, k, 0⟩ := by
  obtain ⟨f, hf, he⟩ := h.goes
  rw [← he]
  rcases f with _ | f
  · rfl
  · unfold scanGo; rw [if_pos hk]
theorem bad (h : Scanning s acc k) (hk : k < s.length) (hb : (dec (s.drop k)).err ≠ 0) : scan s = ⟨acc, k, (dec (s.drop k)).err⟩ := by
  obtain ⟨f, hf, he⟩ := h.goes
  rw [← he]
  rcases f with _ | f
  · omega
  · unfold scanGo; rw [if_neg (by omega), if_pos hb]
theorem order (h : Scanning s acc k) (hk : k < s.length) (hb : (dec (s.drop k)).err = 0) (h0 : acc ≠ []) (hn : (dec (s.drop k)).num ≠ lastN acc + 1) : scan s = ⟨acc, k, 253⟩ := by
  obtain ⟨f, hf, he⟩ := h.goes
  rw [← he]
  rcases f with _ | f
  · omega
  · unfold scanGo; rw [if_neg (by omega), if_neg (by omega), if_pos ⟨h0, hn⟩]
theorem next (h : Scanning s acc k) (hk : k < s.length) (hb : (dec (s.drop k)).err = 0) (hn : acc = [] ∨ (dec (s.drop k)).num = lastN acc + 1) :
    Scanning s (acc ++ [((dec (s.drop k)).num, (dec (s.drop k)).body)]) (k + (dec (s.drop k)).used) := by
  obtain ⟨f, hf, he⟩ := h.goes
  obtain ⟨o1, o2, o3, o4⟩ := dec_ok hb
  rw [List.length_drop] at o4
  have hfit := h.fits
  have hmany := h.many
  refine ⟨by omega, by rw [List.length_append, List.length_singleton]; omega, fun g hg => ?_, ?_⟩
  · rcases List.mem_append.1 hg with hg | hg
    · exact h.nums g hg
    · rw [List.mem_singleton] at hg; subst hg; exact ⟨o1, o2⟩
  rcases f with _ | f
  · omega
  refine ⟨f, by omega, ?_⟩
  rw [← he]
  conv => rhs; unfold scanGo
  rw [if_neg (by omega), if_neg (by omega), if_neg]
  rintro ⟨h1, h2⟩
  rcases hn with hn | hn
  · exact h1 hn
  · exact h2 hn
end Scanning

end Go.Proofs.YtfbjmhipjfjaeaaGreatDoor.Pl

namespace Go.Proofs.YtfbjmhipjfjaeaaGreatDoor.Pl

/-- Groups with these bodies, from a number on. -/
def grps (f : Nat) : List (List UInt8) → List Grp
  | [] => []
  | b :: l => (f, b) :: grps (f + 1) l
theorem grps_length : ∀ (l : List (List UInt8)) (f : Nat), (grps f l).length = l.length
  | [], _ => rfl
  | b :: l, f => by simp [grps, grps_length l]
theorem grps_snoc : ∀ (l : List (List UInt8)) (f : Nat) (b : List UInt8), grps f (l ++ [b]) = grps f l ++ [(f + l.length, b)]
  | [], f, b => by simp [grps]
  | a :: l, f, b => by simp [grps, grps_snoc l (f + 1) b]; omega
theorem grps_append : ∀ (l m : List (List UInt8)) (f : Nat), grps f (l ++ m) = grps f l ++ grps (f + l.length) m
  | [], m, f => by simp [grps]
  | a :: l, m, f => by
    have h := grps_append l m (f + 1)
    simp only [grps, List.cons_append, h, List.length_cons]
    rw [show f + 1 + l.length = f + (l.length + 1) by omega]
theorem lastN_grps {l : List (List UInt8)} {f : Nat} (h : l ≠ []) : lastN (grps f l) + 1 = f + l.length := by
  rw [← List.dropLast_concat_getLast h, grps_snoc, lastN_snoc]
  simp; omega
def encAll (gs : List Grp) : List UInt8 := gs.flatMap fun g => encL g.1 g.2
theorem encAll_append (a b : List Grp) : encAll (a ++ b) = encAll a ++ encAll b := by simp [encAll]
theorem encAll_snoc (a : List Grp) (n : Nat) (b : List UInt8) : encAll (a ++ [(n, b)]) = encAll a ++ encL n b := by simp [encAll]

/-- The scan goes along groups that stand in their order. -/
theorem along {f : Nat} (hf : f ≠ 0) (x : List UInt8) : ∀ (m l : List (List UInt8)), f + (l ++ m).length ≤ 18446744073709551616 → (∀ b ∈ m, b.length ≤ maxG) →
    Scanning (encAll (grps f (l ++ m)) ++ x) (grps f l) (encAll (grps f l)).length → Scanning (encAll (grps f (l ++ m)) ++ x) (grps f (l ++ m)) (encAll (grps f (l ++ m))).length
  | [], l, _, _, h => by rw [List.append_nil] at h ⊢; exact h
  | b :: m, l, hm, hb, h => by
    have e : l ++ b :: m = (l ++ [b]) ++ m := by simp
    rw [e] at h hm ⊢
    refine along hf x m (l ++ [b]) hm (fun c hc => hb c (List.mem_cons_of_mem _ hc)) ?_
    have hb1 := hb b (List.mem_cons_self ..)
    have hd : (encAll (grps f ((l ++ [b]) ++ m)) ++ x).drop (encAll (grps f l)).length = encL (f + l.length) b ++ (encAll (grps (f + (l ++ [b]).length) m) ++ x) := by
      rw [grps_append (l ++ [b]) m f, grps_snoc, encAll_append, encAll_snoc, List.append_assoc, List.append_assoc, drop_front rfl]
    have hg := dec_back (n := f + l.length) (b := b) (by omega) (by simp at hm; omega) hb1 (encAll (grps (f + (l ++ [b]).length) m) ++ x)
    rw [← hd] at hg
    have hlt : (encAll (grps f l)).length < (encAll (grps f ((l ++ [b]) ++ m)) ++ x).length := by
      have h1 := congrArg List.length hd
      rw [List.length_drop, List.length_append (as := encL (f + l.length) b), encL_length] at h1
      omega
    have hn := h.next hlt (by rw [hg]) (by
      by_cases h0 : l = []
      · left; subst h0; rfl
      · right; rw [hg]; exact (lastN_grps h0).symm)
    rw [hg] at hn
    rw [grps_snoc, encAll_snoc, List.length_append, encL_length]
    exact hn

theorem along_all {f : Nat} (hf : f ≠ 0) (x : List UInt8) (l : List (List UInt8)) (hl : f + l.length ≤ 18446744073709551616) (hb : ∀ b ∈ l, b.length ≤ maxG) :
    Scanning (encAll (grps f l) ++ x) (grps f l) (encAll (grps f l)).length :=
  along hf x l [] hl hb (Scanning.start _)

section
variable {f : Nat} (hf : f ≠ 0) {l : List (List UInt8)} (hl : f + l.length ≤ 18446744073709551616) (hb : ∀ b ∈ l, b.length ≤ maxG)
include hf hl hb
theorem scan_row : scan (encAll (grps f l)) = ⟨grps f l, (encAll (grps f l)).length, 0⟩ := by
  have h := along_all hf [] l hl hb
  rw [List.append_nil] at h
  exact h.done (Nat.le_refl _)
theorem scan_torn {n : Nat} {b : List UInt8} (hn0 : n ≠ 0) (hn : n < 18446744073709551616) (hbb : b.length ≤ maxG) {k : Nat} (hk0 : 0 < k) (hk : k < (encL n b).length) :
    scan (encAll (grps f l) ++ (encL n b).take k) = ⟨grps f l, (encAll (grps f l)).length, 251⟩ := by
  have h := along_all hf ((encL n b).take k) l hl hb
  have hd : (encAll (grps f l) ++ (encL n b).take k).drop (encAll (grps f l)).length = (encL n b).take k := drop_front rfl
  have ht := dec_torn hn0 hn hbb hk
  rw [← hd] at ht
  have hr := h.bad (by rw [List.length_append, List.length_take]; omega) (by rw [ht]; decide)
  rw [ht] at hr
  exact hr
theorem scan_order (h0 : l ≠ []) {n : Nat} {b : List UInt8} (hn0 : n ≠ 0) (hn : n < 18446744073709551616) (hbb : b.length ≤ maxG) (hne : n ≠ f + l.length) :
    scan (encAll (grps f l) ++ encL n b) = ⟨grps f l, (encAll (grps f l)).length, 253⟩ := by
  have h := along_all hf (encL n b) l hl hb
  have hd : (encAll (grps f l) ++ encL n b).drop (encAll (grps f l)).length = encL n b := drop_front rfl
  have ht := dec_back hn0 hn hbb []
  rw [List.append_nil, ← hd] at ht
  refine h.order (by rw [List.length_append, encL_length]; omega) (by rw [ht]) (fun hg => h0 ?_) ?_
  · have := grps_length l f; rw [hg] at this; exact List.length_eq_zero_iff.1 this.symm
  · rw [ht, lastN_grps h0]; exact hne
end

/-- How many bytes groups have, by their bodies' letters. -/
theorem encAll_length (f : Nat) : ∀ (l : List (List UInt8)), (encAll (grps f l)).length = 25 * l.length + (l.map List.length).sum := by
  intro l
  induction l generalizing f with
  | nil => rfl
  | cons b l ih =>
    have := ih (f + 1)
    simp only [grps, encAll, List.flatMap_cons, List.length_append, encL_length, List.length_cons, List.map_cons, List.sum_cons] at this ⊢
    omega

end Go.Proofs.YtfbjmhipjfjaeaaGreatDoor.Pl
