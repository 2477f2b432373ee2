/- Plain laws on numbers: the sum of CRC-32 as a function on lists of bytes; numbers out of bytes. No program is in sight. Plain laws on groups as bytes. No program is in sight. Rows of bytes that a call made for itself: what a conversion of a text lays, a store into it, and the text back. -/
import Derived.PlainAid
import Derived.Test.YtfbjmhipjfjaeaaGreatDoorM01
namespace Go.Proofs.YtfbjmhipjfjaeaaGreatDoor.Pl

/-! ### The sum -/
def poly : Nat := 3988292384
def step1 (r : Nat) : Nat := if r % 2 = 1 then (r / 2) ^^^ 3988292384 else r / 2
def stepN : Nat → Nat → Nat
  | 0, r => r
  | k + 1, r => step1 (stepN k r)
def upd (r c : Nat) : Nat := stepN 8 (r ^^^ c)
def crcL (r : Nat) (l : List UInt8) : Nat := l.foldl (fun r c => upd r c.toNat) r
def not32 (r : Nat) : Nat := 4294967295 - r
def more (s : Nat) (l : List UInt8) : Nat := not32 (crcL (not32 s) l)
def crc (l : List UInt8) : Nat := more 0 l

theorem step1_lt {r : Nat} (h : r < 4294967296) : step1 r < 4294967296 := by
  unfold step1
  split
  · exact Nat.xor_lt_two_pow (n := 32) (by omega) (by omega)
  · omega
theorem stepN_lt (k : Nat) {r : Nat} (h : r < 4294967296) : stepN k r < 4294967296 := by
  induction k with
  | zero => exact h
  | succ k ih => exact step1_lt ih
theorem xor_mod2 (a b : Nat) : (a ^^^ b) % 2 = (a % 2 + b % 2) % 2 := by
  have h := Nat.testBit_xor (x := a) (y := b) (i := 0)
  simp only [Nat.testBit_zero] at h
  rcases Nat.mod_two_eq_zero_or_one a with ha | ha <;> rcases Nat.mod_two_eq_zero_or_one b with hb | hb <;> rcases Nat.mod_two_eq_zero_or_one (a ^^^ b) with hc | hc <;> simp_all
theorem xor_div2 (a b : Nat) : (a ^^^ b) / 2 = (a / 2) ^^^ (b / 2) := by
  have h := Nat.xor_div_two_pow (a := a) (b := b) (n := 1)
  simpa using h
theorem xor_swap (p q m : Nat) : (p ^^^ m) ^^^ q = (p ^^^ q) ^^^ m := by rw [Nat.xor_assoc, Nat.xor_comm m q, ← Nat.xor_assoc]
theorem step1_xor (a b : Nat) : step1 (a ^^^ b) = step1 a ^^^ step1 b := by
  unfold step1
  have h := xor_mod2 a b
  rw [xor_div2]
  rcases Nat.mod_two_eq_zero_or_one a with ha | ha <;> rcases Nat.mod_two_eq_zero_or_one b with hb | hb <;> rw [ha, hb] at h <;> simp only [ha, hb, h] <;> simp
  · exact (Nat.xor_assoc _ _ _)
  · exact (xor_swap _ _ _).symm
  · rw [Nat.xor_assoc, Nat.xor_comm (b / 2), ← Nat.xor_assoc 3988292384, Nat.xor_self, Nat.zero_xor]
theorem stepN_xor (k a b : Nat) : stepN k (a ^^^ b) = stepN k a ^^^ stepN k b := by
  induction k with
  | zero => rfl
  | succ k ih => simp only [stepN, ih, step1_xor]
theorem stepN_high (k : Nat) : ∀ q : Nat, stepN k (2 ^ k * q) = q := by
  induction k with
  | zero => intro q; simp [stepN]
  | succ k ih =>
    intro q
    have e : 2 ^ (k + 1) * q = 2 ^ k * (2 * q) := by rw [Nat.pow_succ, Nat.mul_assoc]
    simp only [stepN]
    rw [e, ih]
    simp [step1]
theorem split256 (r : Nat) : r = (r % 256) ^^^ (2 ^ 8 * (r / 256)) := by
  apply Nat.eq_of_testBit_eq
  intro i
  have e1 : (r % 256).testBit i = (decide (i < 8) && r.testBit i) := Nat.testBit_mod_two_pow r 8 i
  have e2 : (2 ^ 8 * (r / 256)).testBit i = (decide (8 ≤ i) && (r / 256).testBit (i - 8)) := Nat.testBit_two_pow_mul
  have e3 : (r / 256).testBit (i - 8) = r.testBit (8 + (i - 8)) := by
    have h : (r / 2 ^ 8).testBit (i - 8) = r.testBit ((i - 8) + 8) := Nat.testBit_div_two_pow r (i - 8)
    rw [Nat.add_comm]; exact h
  rw [Nat.testBit_xor, e1, e2, e3]
  by_cases h : i < 8
  · simp [h, show ¬ 8 ≤ i by omega]
  · simp [h, show 8 ≤ i by omega, show 8 + (i - 8) = i by omega]
theorem upd_table (r c : Nat) : stepN 8 ((r % 256) ^^^ c) ^^^ (r / 256) = upd r c := by
  unfold upd
  conv => rhs; rw [split256 r]
  rw [xor_swap, stepN_xor 8 (r % 256 ^^^ c) (2 ^ 8 * (r / 256)), stepN_high]
theorem upd_lt {r c : Nat} (h : r < 4294967296) (hc : c < 256) : upd r c < 4294967296 :=
  stepN_lt 8 (Nat.xor_lt_two_pow (n := 32) (by omega) (by omega))
theorem crcL_lt (l : List UInt8) : ∀ {r : Nat}, r < 4294967296 → crcL r l < 4294967296 := by
  induction l with
  | nil => intro r h; exact h
  | cons c l ih => intro r h; exact ih (upd_lt h c.toNat_lt)
theorem crcL_snoc (r : Nat) (l : List UInt8) (c : UInt8) : crcL r (l ++ [c]) = upd (crcL r l) c.toNat := by simp [crcL]
theorem crcL_append (r : Nat) (a b : List UInt8) : crcL r (a ++ b) = crcL (crcL r a) b := by simp [crcL]
theorem not32_lt (r : Nat) : not32 r < 4294967296 := by unfold not32; omega
theorem not32_not32 {r : Nat} (h : r < 4294967296) : not32 (not32 r) = r := by unfold not32; omega
theorem more_lt (s : Nat) (l : List UInt8) : more s l < 4294967296 := not32_lt _
theorem more_crc (a b : List UInt8) : more (crc a) b = crc (a ++ b) := by
  unfold crc more
  rw [not32_not32 (crcL_lt _ (not32_lt _)), crcL_append]

/-! ### One byte more or less makes another sum -/
theorem xor_cancel {a b c : Nat} (h : a ^^^ c = b ^^^ c) : a = b := by
  have := congrArg (· ^^^ c) h
  simpa [Nat.xor_assoc] using this
theorem top_of {q : Nat} (h : q < 2147483648) : 2147483648 ≤ q ^^^ 3988292384 := by
  have e : (q ^^^ 3988292384).testBit 31 = true := by
    rw [Nat.testBit_xor, Nat.testBit_lt_two_pow (x := q) (i := 31) (by omega)]
    decide
  refine Decidable.byContradiction fun hn => ?_
  rw [Nat.testBit_lt_two_pow (i := 31) (by omega)] at e
  cases e
theorem step1_inj {a b : Nat} (ha : a < 4294967296) (hb : b < 4294967296) (h : step1 a = step1 b) : a = b := by
  unfold step1 at h
  split at h <;> split at h
  · have := xor_cancel h; omega
  · have := top_of (q := a / 2) (by omega); omega
  · have := top_of (q := b / 2) (by omega); omega
  · omega
theorem stepN_inj (k : Nat) {a b : Nat} (ha : a < 4294967296) (hb : b < 4294967296) (h : stepN k a = stepN k b) : a = b := by
  induction k with
  | zero => exact h
  | succ k ih => exact ih (step1_inj (stepN_lt k ha) (stepN_lt k hb) h)
theorem upd_inj {a b c : Nat} (ha : a < 4294967296) (hb : b < 4294967296) (hc : c < 256) (h : upd a c = upd b c) : a = b :=
  xor_cancel (stepN_inj 8 (Nat.xor_lt_two_pow (n := 32) (by omega) (by omega)) (Nat.xor_lt_two_pow (n := 32) (by omega) (by omega)) h)
theorem upd_inj' {r c d : Nat} (hr : r < 4294967296) (hc : c < 256) (hd : d < 256) (h : upd r c = upd r d) : c = d := by
  have h2 := stepN_inj 8 (Nat.xor_lt_two_pow (n := 32) (by omega) (by omega)) (Nat.xor_lt_two_pow (n := 32) (by omega) (by omega)) h
  rw [Nat.xor_comm r c, Nat.xor_comm r d] at h2
  exact xor_cancel h2
theorem crcL_inj (l : List UInt8) : ∀ {a b : Nat}, a < 4294967296 → b < 4294967296 → crcL a l = crcL b l → a = b := by
  induction l with
  | nil => intro a b _ _ h; exact h
  | cons c l ih => intro a b ha hb h; exact upd_inj ha hb c.toNat_lt (ih (upd_lt ha c.toNat_lt) (upd_lt hb c.toNat_lt) h)
theorem crc_spoilt (p q : List UInt8) (c d : UInt8) (h : c ≠ d) : crc (p ++ c :: q) ≠ crc (p ++ d :: q) := by
  intro e
  unfold crc more at e
  have l1 := crcL_lt (p ++ c :: q) (not32_lt 0)
  have l2 := crcL_lt (p ++ d :: q) (not32_lt 0)
  have e1 : crcL (not32 0) (p ++ c :: q) = crcL (not32 0) (p ++ d :: q) := by
    unfold not32 at *; omega
  rw [crcL_append, crcL_append] at e1
  have lp := crcL_lt p (not32_lt 0)
  have e2 : upd (crcL (not32 0) p) c.toNat = upd (crcL (not32 0) p) d.toNat := crcL_inj q (upd_lt lp c.toNat_lt) (upd_lt lp d.toNat_lt) e1
  exact h (UInt8.toNat_inj.1 (upd_inj' lp c.toNat_lt d.toNat_lt e2))

/-! ### Bytes as a number, the lowest first -/
def num : List UInt8 → Nat
  | [] => 0
  | c :: l => c.toNat + 256 * num l
theorem num_append (a b : List UInt8) : num (a ++ b) = num a + 2 ^ (8 * a.length) * num b := by
  induction a with
  | nil => simp [num]
  | cons c a ih =>
    have e : 2 ^ (8 * (c :: a).length) = 256 * 2 ^ (8 * a.length) := by rw [List.length_cons, Nat.mul_add, Nat.pow_add]; simp [Nat.mul_comm]
    rw [List.cons_append, num, num, ih, e, Nat.mul_add, Nat.mul_assoc, Nat.add_assoc]
theorem num_lt (l : List UInt8) : num l < 2 ^ (8 * l.length) := by
  induction l with
  | nil => simp [num]
  | cons c l ih =>
    have e : 2 ^ (8 * (c :: l).length) = 256 * 2 ^ (8 * l.length) := by rw [List.length_cons, Nat.mul_add, Nat.pow_add]; simp [Nat.mul_comm]
    have := c.toNat_lt
    rw [num, e]; omega
theorem num_snoc (l : List UInt8) (c : UInt8) : num (l ++ [c]) = num l + 2 ^ (8 * l.length) * c.toNat := by rw [num_append]; simp [num]
theorem num_or (l : List UInt8) (c : UInt8) : num l ||| (c.toNat * 2 ^ (8 * l.length)) = num (l ++ [c]) := by
  rw [num_snoc, Nat.mul_comm c.toNat, Nat.or_comm, ← Nat.two_pow_add_eq_or_of_lt (num_lt l), Nat.add_comm]
theorem num_lt8 {l : List UInt8} (h : l.length ≤ 8) : num l < 18446744073709551616 := by
  have h1 := num_lt l
  have h2 : 2 ^ (8 * l.length) ≤ 2 ^ 64 := Nat.pow_le_pow_right (by omega) (by omega)
  omega

/-! ### A number as so many bytes, the lowest first -/
def fixL (n k : Nat) : List UInt8 := (List.range k).map fun j => UInt8.ofNat (n / 2 ^ (8 * j))
theorem fixL_succ (n j : Nat) : fixL n (j + 1) = fixL n j ++ [UInt8.ofNat (n / 2 ^ (8 * j))] := by
  simp [fixL, List.range_succ]
theorem fixL_length (n j : Nat) : (fixL n j).length = j := by simp [fixL]
theorem div_step (n j : Nat) : n / 2 ^ (8 * (j + 1)) = n / 2 ^ (8 * j) / 256 := by
  rw [Nat.div_div_eq_div_mul, Nat.mul_add, Nat.pow_add]
theorem num_fixL (n k : Nat) : num (fixL n k) = n % 2 ^ (8 * k) := by
  induction k with
  | zero => simp [fixL, num, Nat.mod_one]
  | succ k ih =>
    rw [fixL_succ, num_snoc, ih, fixL_length, UInt8.toNat_ofNat']
    have e : 2 ^ (8 * (k + 1)) = 2 ^ (8 * k) * 256 := by rw [Nat.mul_add, Nat.pow_add]
    rw [e, Nat.mod_mul]
theorem num_inj : ∀ {a b : List UInt8}, a.length = b.length → num a = num b → a = b
  | [], [], _, _ => rfl
  | [], _ :: _, h, _ => by simp at h
  | _ :: _, [], h, _ => by simp at h
  | x :: a, y :: b, h, e => by
    have hx := x.toNat_lt
    have hy := y.toNat_lt
    simp only [num] at e
    have e1 : x.toNat = y.toNat := by omega
    have e2 : num a = num b := by omega
    rw [UInt8.toNat_inj.1 e1, num_inj (by simpa using h) e2]
theorem fixL_num (l : List UInt8) : fixL (num l) l.length = l := by
  apply num_inj (by rw [fixL_length])
  rw [num_fixL, Nat.mod_eq_of_lt (num_lt l)]
theorem fixL_eq {x k : Nat} {l : List UInt8} (hl : l.length = k) (hx : x < 2 ^ (8 * k)) : fixL x k = l ↔ x = num l := by
  constructor
  · intro h; rw [← h, num_fixL, Nat.mod_eq_of_lt hx]
  · rintro rfl; rw [← hl, fixL_num]
end Go.Proofs.YtfbjmhipjfjaeaaGreatDoor.Pl

namespace Go.Proofs.YtfbjmhipjfjaeaaGreatDoor.Pl

def maxG : Nat := 1073741824
def front (len n : Nat) : List UInt8 := fixL len 8 ++ fixL n 8
def tail (n : Nat) (body : List UInt8) : List UInt8 := fixL (crc (fixL n 8 ++ body)) 4 ++ [10]
/-- The bytes of a group. -/
def encL (n : Nat) (body : List UInt8) : List UInt8 := front body.length n ++ (fixL (crc (front body.length n)) 4 ++ (body ++ tail n body))
def okG (n : Nat) (body : List UInt8) : Bool := decide (n ≠ 0 ∧ body.length ≤ maxG)

/-- What a reader tells: the number, the body, how many bytes, the error. -/
structure Got where
  num : Nat
  body : List UInt8
  used : Nat
  err : Nat
def Got.bad (e : Nat) : Got := ⟨0, [], 0, e⟩

def sizeOf (s : List UInt8) : Nat := num (s.take 8)
def numOf (s : List UInt8) : Nat := num ((s.drop 8).take 8)
def bodyOf (s : List UInt8) : List UInt8 := (s.drop 20).take (sizeOf s)
def headSum (s : List UInt8) : Bool := decide (fixL (crc (s.take 16)) 4 = (s.drop 16).take 4)
def bodySum (s : List UInt8) : Bool := decide (fixL (crc ((s.drop 8).take 8 ++ bodyOf s)) 4 = (s.drop (20 + sizeOf s)).take 4)
def dec (s : List UInt8) : Got :=
  if s.length < 20 then .bad 251
  else if headSum s = false then .bad 252
  else if numOf s = 0 ∨ maxG < sizeOf s then .bad 250
  else if s.length < 25 + sizeOf s then .bad 251
  else if bodySum s = false ∨ s.getD (24 + sizeOf s) 0 ≠ 10 then .bad 252
  else ⟨numOf s, bodyOf s, 25 + sizeOf s, 0⟩

theorem front_length (a b : Nat) : (front a b).length = 16 := by simp [front, fixL_length]
theorem tail_length (n : Nat) (b : List UInt8) : (tail n b).length = 5 := by simp [tail, fixL_length]
theorem encL_length (n : Nat) (b : List UInt8) : (encL n b).length = 25 + b.length := by
  simp [encL, front_length, tail_length, fixL_length]; omega

theorem take_front {a b : List UInt8} {k : Nat} (h : a.length = k) : (a ++ b).take k = a := by subst h; simp
theorem drop_front {a b : List UInt8} {k : Nat} (h : a.length = k) : (a ++ b).drop k = b := by subst h; simp

section
variable {n : Nat} {b : List UInt8} (x : List UInt8)
/-- A text that begins as a group does, up to its 16 first bytes. -/
theorem size_of_front (hb : b.length ≤ maxG) : sizeOf (front b.length n ++ x) = b.length := by
  unfold sizeOf front
  rw [List.append_assoc, take_front (fixL_length _ _), num_fixL, Nat.mod_eq_of_lt]
  unfold maxG at hb; omega
theorem num_of_front (hn : n < 18446744073709551616) : numOf (front b.length n ++ x) = n := by
  unfold numOf front
  rw [List.append_assoc, drop_front (fixL_length _ _), take_front (fixL_length _ _), num_fixL, Nat.mod_eq_of_lt]
  omega
theorem num8_of_front : ((front b.length n ++ x).drop 8).take 8 = fixL n 8 := by
  unfold front
  rw [List.append_assoc, drop_front (fixL_length _ _), take_front (fixL_length _ _)]
theorem headSum_of {y : List UInt8} (hy : y.length = 4) : headSum (front b.length n ++ (y ++ x)) = decide (fixL (crc (front b.length n)) 4 = y) := by
  unfold headSum
  rw [take_front (front_length _ _), drop_front (front_length _ _), take_front hy]
theorem drop20_of {y : List UInt8} (hy : y.length = 4) : (front b.length n ++ (y ++ x)).drop 20 = x := by
  rw [← List.append_assoc, drop_front (by simp [front_length, hy])]
end

theorem dec_back {n : Nat} {b : List UInt8} (hn0 : n ≠ 0) (hn : n < 18446744073709551616) (hb : b.length ≤ maxG) (x : List UInt8) :
    dec (encL n b ++ x) = ⟨n, b, 25 + b.length, 0⟩ := by
  have hlen : (encL n b ++ x).length = 25 + b.length + x.length := by rw [List.length_append, encL_length]
  have e : encL n b ++ x = front b.length n ++ (fixL (crc (front b.length n)) 4 ++ (b ++ (tail n b ++ x))) := by simp [encL]
  have hs : sizeOf (encL n b ++ x) = b.length := by rw [e]; exact size_of_front _ hb
  have hnum : numOf (encL n b ++ x) = n := by rw [e]; exact num_of_front _ hn
  have hh : headSum (encL n b ++ x) = true := by rw [e, headSum_of _ (fixL_length _ _)]; simp
  have hbody : bodyOf (encL n b ++ x) = b := by
    unfold bodyOf
    rw [hs, e, drop20_of _ (fixL_length _ _), take_front rfl]
  have hd : (encL n b ++ x).drop (20 + b.length) = tail n b ++ x := by
    rw [← List.drop_drop, e, drop20_of _ (fixL_length _ _), drop_front rfl]
  have hbs : bodySum (encL n b ++ x) = true := by
    unfold bodySum
    rw [hbody, hs, hd]
    have h8 : ((encL n b ++ x).drop 8).take 8 = fixL n 8 := by rw [e]; exact num8_of_front _
    rw [h8]
    unfold tail
    rw [List.append_assoc, take_front (fixL_length _ _)]
    simp
  have hlast : (encL n b ++ x).getD (24 + b.length) 0 = 10 := by
    have : (encL n b ++ x).getD (20 + b.length + 4) 0 = (tail n b ++ x).getD 4 0 := by
      rw [← hd]; simp [List.getD, List.getElem?_drop]
    rw [show 24 + b.length = 20 + b.length + 4 by omega, this]
    unfold tail
    simp [List.getD, fixL_length]
  unfold dec
  rw [if_neg (by omega), if_neg (by rw [hh]; simp), hnum, hs, if_neg (by simp only [hn0, false_or]; omega), if_neg (by omega), hbs, hlast, hbody]
  simp

theorem dec_torn {n : Nat} {b : List UInt8} (hn0 : n ≠ 0) (hn : n < 18446744073709551616) (hb : b.length ≤ maxG) {k : Nat} (hk : k < (encL n b).length) :
    dec ((encL n b).take k) = .bad 251 := by
  rw [encL_length] at hk
  have hlen : ((encL n b).take k).length = k := by rw [List.length_take, encL_length]; omega
  unfold dec
  by_cases h20 : k < 20
  · rw [if_pos (by omega)]
  · have e : (encL n b).take k = front b.length n ++ (fixL (crc (front b.length n)) 4 ++ (b ++ tail n b).take (k - 20)) := by
      unfold encL
      rw [List.take_append, List.take_of_length_le (by rw [front_length]; omega), front_length, List.take_append, List.take_of_length_le (by rw [fixL_length]; omega), fixL_length]
      congr 3
    have hs : sizeOf ((encL n b).take k) = b.length := by rw [e]; exact size_of_front _ hb
    have hnum : numOf ((encL n b).take k) = n := by rw [e]; exact num_of_front _ hn
    have hh : headSum ((encL n b).take k) = true := by rw [e, headSum_of _ (fixL_length _ _)]; simp
    rw [if_neg (by omega), if_neg (by rw [hh]; simp), hnum, hs, if_neg (by simp only [hn0, false_or]; omega), if_pos (by omega)]


/-! ### One byte of a group is another one -/
theorem crc_set {l : List UInt8} {k : Nat} {v : UInt8} (hk : k < l.length) (hv0 : l[k]? ≠ some v) : crc (l.set k v) ≠ crc l := by
  have hv : l[k] ≠ v := fun h => hv0 (by rw [List.getElem?_eq_getElem hk, h])
  have e1 : l.set k v = l.take k ++ v :: l.drop (k + 1) := List.set_eq_take_append_cons_drop.trans (if_pos hk)
  have e2 : l = l.take k ++ l[k] :: l.drop (k + 1) := by
    rw [← List.drop_eq_getElem_cons hk, List.take_append_drop]
  rw [e1]
  conv => rhs; rw [e2]
  exact crc_spoilt _ _ _ _ (fun h => hv h.symm)
theorem fix4_inj {a b : Nat} (ha : a < 4294967296) (hb : b < 4294967296) (h : fixL a 4 = fixL b 4) : a = b := by
  have := congrArg num h
  rw [num_fixL, num_fixL] at this
  omega
theorem crc_lt (l : List UInt8) : crc l < 4294967296 := more_lt 0 l
theorem set_ne {l : List UInt8} {k : Nat} {v : UInt8} (hk : k < l.length) (hv : l[k]? ≠ some v) : l.set k v ≠ l := by
  intro h
  rw [← h] at hv
  exact hv (List.getElem?_set_self hk)

theorem dec_badHead {A B R : List UInt8} (hA : A.length = 16) (hB : B.length = 4) (h : fixL (crc A) 4 ≠ B) : dec (A ++ (B ++ R)) = .bad 252 := by
  have hl : ¬ (A ++ (B ++ R)).length < 20 := by simp; omega
  have hs : headSum (A ++ (B ++ R)) = false := by
    unfold headSum
    rw [take_front hA, drop_front hA, take_front hB]
    simpa using h
  unfold dec
  rw [if_neg hl, if_pos hs]

theorem dec_badBody {n : Nat} {b C D : List UInt8} {e : UInt8} (hn0 : n ≠ 0) (hn : n < 18446744073709551616) (hb : b.length ≤ maxG) (hC : C.length = b.length) (hD : D.length = 4)
    (h : fixL (crc (fixL n 8 ++ C)) 4 ≠ D ∨ e ≠ 10) :
    dec (front b.length n ++ (fixL (crc (front b.length n)) 4 ++ (C ++ (D ++ [e])))) = .bad 252 := by
  have hlen : (front b.length n ++ (fixL (crc (front b.length n)) 4 ++ (C ++ (D ++ [e])))).length = 25 + b.length := by
    simp [front_length, fixL_length]; omega
  have hs := size_of_front (n := n) (fixL (crc (front b.length n)) 4 ++ (C ++ (D ++ [e]))) hb
  have hnum := num_of_front (n := n) (b := b) (fixL (crc (front b.length n)) 4 ++ (C ++ (D ++ [e]))) hn
  have hh : headSum (front b.length n ++ (fixL (crc (front b.length n)) 4 ++ (C ++ (D ++ [e])))) = true := by rw [headSum_of _ (fixL_length _ _)]; simp
  have h8 := num8_of_front (n := n) (b := b) (fixL (crc (front b.length n)) 4 ++ (C ++ (D ++ [e])))
  have h20 := drop20_of (n := n) (b := b) (C ++ (D ++ [e])) (y := fixL (crc (front b.length n)) 4) (fixL_length _ _)
  generalize front b.length n ++ (fixL (crc (front b.length n)) 4 ++ (C ++ (D ++ [e]))) = s at *
  have hbody : bodyOf s = C := by unfold bodyOf; rw [hs, h20, take_front hC]
  have hd : s.drop (20 + b.length) = D ++ [e] := by rw [← List.drop_drop, h20, drop_front hC]
  have hbs : bodySum s = decide (fixL (crc (fixL n 8 ++ C)) 4 = D) := by
    unfold bodySum
    rw [hbody, hs, hd, h8, take_front hD]
  have hlast : s.getD (24 + b.length) 0 = e := by
    have : s.getD (20 + b.length + 4) 0 = (D ++ [e]).getD 4 0 := by rw [← hd]; simp [List.getD, List.getElem?_drop]
    rw [show 24 + b.length = 20 + b.length + 4 by omega, this]
    simp [List.getD, hD]
  unfold dec
  rw [if_neg (by omega), if_neg (by rw [hh]; simp), hnum, hs, if_neg (by simp only [hn0, false_or]; omega), if_neg (by omega), hbs, hlast, if_pos (by simpa using h)]

theorem dec_spoilt {n : Nat} {b : List UInt8} (hn0 : n ≠ 0) (hn : n < 18446744073709551616) (hb : b.length ≤ maxG) {k : Nat} {v : UInt8} (hk : k < (encL n b).length) (hv : (encL n b)[k]? ≠ some v) :
    dec ((encL n b).set k v) = .bad 252 := by
  have hL := encL_length n b
  have h16 := front_length b.length n
  have hS := fixL_length (crc (front b.length n)) 4
  have hT := fixL_length (crc (fixL n 8 ++ b)) 4
  by_cases k1 : k < 16
  · have e : (encL n b).set k v = (front b.length n).set k v ++ (fixL (crc (front b.length n)) 4 ++ (b ++ tail n b)) := by
      unfold encL; rw [List.set_append_left _ _ (by omega)]
    have hv' : (front b.length n)[k]? ≠ some v := by
      rw [← List.getElem?_append_left (l₂ := fixL (crc (front b.length n)) 4 ++ (b ++ tail n b)) (by omega)]; exact hv
    rw [e]
    refine dec_badHead (by simp [h16]) hS fun h => ?_
    exact crc_set (by omega) hv' (fix4_inj (crc_lt _) (crc_lt _) h)
  by_cases k2 : k < 20
  · have e : (encL n b).set k v = front b.length n ++ ((fixL (crc (front b.length n)) 4).set (k - 16) v ++ (b ++ tail n b)) := by
      unfold encL; rw [List.set_append_right _ _ (by omega), h16, List.set_append_left _ _ (by omega)]
    have hv' : (fixL (crc (front b.length n)) 4)[k - 16]? ≠ some v := by
      have h := hv
      unfold encL at h
      rwa [List.getElem?_append_right (by omega), h16, List.getElem?_append_left (by omega)] at h
    rw [e]
    refine dec_badHead h16 (by simp [hS]) fun h => ?_
    exact set_ne (by omega) hv' h.symm
  by_cases k3 : k < 20 + b.length
  · have e : (encL n b).set k v = front b.length n ++ (fixL (crc (front b.length n)) 4 ++ (b.set (k - 20) v ++ (fixL (crc (fixL n 8 ++ b)) 4 ++ [10]))) := by
      unfold encL tail
      rw [List.set_append_right _ _ (by omega), h16, List.set_append_right _ _ (by omega), hS, List.set_append_left _ _ (by omega), show k - 16 - 4 = k - 20 by omega]
    have hv' : b[k - 20]? ≠ some v := by
      have h := hv
      unfold encL at h
      rwa [List.getElem?_append_right (by omega), h16, List.getElem?_append_right (by omega), hS, List.getElem?_append_left (by omega), show k - 16 - 4 = k - 20 by omega] at h
    rw [e]
    refine dec_badBody hn0 hn hb (by simp) hT (.inl fun h => ?_)
    have h2 := fix4_inj (crc_lt _) (crc_lt _) h
    have e2 : fixL n 8 ++ b.set (k - 20) v = (fixL n 8 ++ b).set (8 + (k - 20)) v := by
      rw [List.set_append_right _ _ (by rw [fixL_length]; omega), fixL_length]; simp
    rw [e2] at h2
    refine crc_set (by simp [fixL_length]; omega) ?_ h2
    rw [List.getElem?_append_right (by rw [fixL_length]; omega), fixL_length, show 8 + (k - 20) - 8 = k - 20 by omega]
    exact hv'
  by_cases k4 : k < 24 + b.length
  · have e : (encL n b).set k v = front b.length n ++ (fixL (crc (front b.length n)) 4 ++ (b ++ ((fixL (crc (fixL n 8 ++ b)) 4).set (k - 20 - b.length) v ++ [10]))) := by
      unfold encL tail
      rw [List.set_append_right _ _ (by omega), h16, List.set_append_right _ _ (by omega), hS, List.set_append_right _ _ (by omega), List.set_append_left _ _ (by omega), show k - 16 - 4 - b.length = k - 20 - b.length by omega]
    have hv' : (fixL (crc (fixL n 8 ++ b)) 4)[k - 20 - b.length]? ≠ some v := by
      have h := hv
      unfold encL tail at h
      rwa [List.getElem?_append_right (by omega), h16, List.getElem?_append_right (by omega), hS, List.getElem?_append_right (by omega), List.getElem?_append_left (by omega), show k - 16 - 4 - b.length = k - 20 - b.length by omega] at h
    rw [e]
    exact dec_badBody hn0 hn hb rfl (by simp [hT]) (.inl fun h => set_ne (by omega) hv' h.symm)
  · have hk' : k = 24 + b.length := by omega
    have e : (encL n b).set k v = front b.length n ++ (fixL (crc (front b.length n)) 4 ++ (b ++ (fixL (crc (fixL n 8 ++ b)) 4 ++ [v]))) := by
      unfold encL tail
      rw [List.set_append_right _ _ (by omega), h16, List.set_append_right _ _ (by omega), hS, List.set_append_right _ _ (by omega), List.set_append_right _ _ (by omega), hT, show k - 16 - 4 - b.length - 4 = 0 by omega]
      rfl
    have hv' : (10 : UInt8) ≠ v := by
      have h := hv
      unfold encL tail at h
      rw [List.getElem?_append_right (by omega), h16, List.getElem?_append_right (by omega), hS, List.getElem?_append_right (by omega), List.getElem?_append_right (by omega), hT, show k - 16 - 4 - b.length - 4 = 0 by omega] at h
      simpa using h
    rw [e]
    exact dec_badBody hn0 hn hb rfl hT (.inr fun h => hv' h.symm)

end Go.Proofs.YtfbjmhipjfjaeaaGreatDoor.Pl

namespace Go.Proofs.YtfbjmhipjfjaeaaGreatDoor
open Go.ChangeShapes Go.WideShapes Go.ChangeAt Go.RowKit
set_option linter.unusedVariables false

/-- Block g holds the n bytes f first, and none of these is frozen. -/
def BRow (w : World) (g n : Nat) (f : Nat → UInt8) : Prop :=
  ∃ cs t lo hi, w.heap[g]? = some (.cells cs t (lo, hi)) ∧ (lo ≥ n ∨ (lo = 0 ∧ hi = 0)) ∧ ∀ i, i < n → cs[i]? = some (.int .u8 ((f i).toNat : Int))

namespace BRow
variable {w w' : World} {g n : Nat} {f : Nat → UInt8}
theorem cell (h : BRow w g n f) {i : Nat} (hi : i < n) : w.cell? ⟨g, i, none⟩ = some (.int .u8 ((f i).toNat : Int)) := by
  obtain ⟨cs, t, lo, hi', hb, _, hc⟩ := h
  simp [World.cell?, hb, hc i hi]
theorem frozen (h : BRow w g n f) {i : Nat} (hi : i < n) : w.frozen? ⟨g, i, none⟩ = false := by
  obtain ⟨cs, t, lo, hi', hb, hz, _⟩ := h
  simp only [World.frozen?, hb]
  simp
  omega
theorem lt (h : BRow w g n f) : g < w.heap.size := by
  obtain ⟨cs, t, lo, hi', hb, _⟩ := h
  exact (Array.getElem?_eq_some_iff.1 hb).1
theorem of_block (h : BRow w g n f) (e : w'.heap[g]? = w.heap[g]?) : BRow w' g n f := by
  obtain ⟨cs, t, lo, hi', hb, r⟩ := h
  exact ⟨cs, t, lo, hi', e.trans hb, r⟩
theorem below (h : BRow w g n f) {B : Nat} (hb : Below B w w') (hg : g < B) : BRow w' g n f := h.of_block (hb.block g hg)
theorem drew (h : BRow w g n f) : BRow w.drew g n f := h
theorem drewN (h : BRow w g n f) (k : Nat) : BRow (w.drewN k) g n f := h
theorem alloc (h : BRow w g n f) (o : Obj) : BRow (w.alloc o) g n f := h.of_block (Below.heap_alloc w o g h.lt)
theorem far (h : BRow w g n f) {p : Addr} (hp : g ≠ p.block) (u : Value) : BRow (w.setCell p u) g n f := h.of_block (Below.heap_setCell w p u g hp)
theorem congr (h : BRow w g n f) {f' : Nat → UInt8} (e : ∀ i, i < n → f i = f' i) : BRow w g n f' := by
  obtain ⟨cs, t, lo, hi', hb, hz, hc⟩ := h
  exact ⟨cs, t, lo, hi', hb, hz, fun i hi => by rw [hc i hi, e i hi]⟩
theorem set (h : BRow w g n f) (i : Nat) (b : UInt8) : BRow (w.setCell ⟨g, i, none⟩ (.int .u8 (b.toNat : Int))) g n (fun j => if j = i then b else f j) := by
  obtain ⟨cs, t, lo, hi', hb, hz, hc⟩ := h
  refine ⟨cs.setIfInBounds i (.int .u8 (b.toNat : Int)), t, lo, hi', ?_, hz, fun j hj => ?_⟩
  · simp [World.setCell, Array.getElem?_modify, hb]
  · rw [Array.getElem?_setIfInBounds]
    by_cases e : i = j
    · subst e
      have hlt : i < cs.size := (Array.getElem?_eq_some_iff.1 (hc i hj)).1
      simp [hlt]
    · rw [if_neg e, hc j hj]
      have e' : ¬ j = i := fun h => e h.symm
      simp [e']
theorem string {P : Program} (src e : TypeId) (hs : P.underlying src = some (.slice e)) (he : P.underlying e = some (.int .u8)) (h : BRow w g n f) (cap : Nat) {dst : TypeId} (hd : P.underlying dst = some .string) :
    (convert src dst (.slice (some ⟨g, 0, none⟩) n cap)).run P w = .ok (.string (str ((List.range n).map f))) w := by
  have hc := run_convert_bytes_back (P := P) w src dst e ⟨g, 0, none⟩ cap ((List.range n).map f) hs he hd (fun j hj => by
    have hj' : j < n := by simpa using hj
    have e : (⟨g, 0, none⟩ : Addr).add j = ⟨g, j, none⟩ := by unfold Addr.add; split <;> simp_all
    rw [e, h.cell hj']
    simp)
  simp only [List.length_map, List.length_range] at hc
  exact hc
end BRow

/-- The byte at a place of a text. -/
def byteAt (s : ByteArray) (i : Nat) : UInt8 := s.data.toList.getD i 0
theorem byteAt_eq (s : ByteArray) {i : Nat} (h : i < s.size) : byteAt s i = s[i] := by
  unfold byteAt
  rw [List.getD_eq_getElem?_getD, List.getElem?_eq_getElem (by rw [len_toList]; exact h)]
  rfl
theorem map_byteAt (s : ByteArray) : (List.range s.size).map (byteAt s) = s.data.toList := by
  apply List.ext_getElem (by simp)
  intro i h1 h2
  simp only [List.getElem_map, List.getElem_range]
  unfold byteAt
  rw [List.getD_eq_getElem?_getD, List.getElem?_eq_getElem h2]
  rfl

/-- A text as bytes of the call's own: there is a world behind it of which this is known. -/
theorem bytes_of_text {P : Program} (w : World) (src dst e : TypeId) (s : ByteArray) (hs : P.underlying src = some .string) (hd : P.underlying dst = some (.slice e)) (he : P.underlying e = some (.int .u8)) :
    ∃ cap w1, (convert src dst (.string s)).run P w = .ok (.slice (some ⟨w.heap.size, 0, none⟩) s.size cap) w1 ∧ BRow w1 w.heap.size s.size (byteAt s) ∧ Below w.heap.size w w1 ∧ w.heap.size < w1.heap.size ∧ s.size ≤ cap := by
  refine ⟨_, _, run_bytes_of_string w src dst e s hs hd he, ?_, (Below.refl _ _).drew.alloc (Nat.le_refl _) _, ?_, grownCap_ge w s.size 0 e⟩
  · refine ⟨_, _, _, _, heap_alloc_new _ _, Or.inl ?_, fun i hi => ?_⟩
    · simp only [bytesRow, Array.size_append, Array.size_map]
      show s.data.size + _ ≥ s.data.size
      omega
    · rw [byteAt_eq s hi]
      have hd' : i < s.data.size := hi
      simp only [bytesRow]
      rw [Array.getElem?_append_left (by simpa using hd'), Array.getElem?_map, Array.getElem?_eq_getElem hd']
      rfl
  · show w.heap.size < (w.heap.push _).size
    simp

end Go.Proofs.YtfbjmhipjfjaeaaGreatDoor
