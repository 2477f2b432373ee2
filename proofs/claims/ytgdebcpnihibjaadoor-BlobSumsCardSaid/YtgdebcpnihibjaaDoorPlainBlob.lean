/- Plain: the places of a piece of bytes; bits of bytes and texts; texts laid over one another. No program is in sight. -/
import Derived.PlainAid
import Derived.Lib.BitFns
namespace Go.Proofs.YtgdebcpnihibjaaDoor.Pl
set_option linter.unusedVariables false

/-! ### Places -/
/-- The first place, and the place behind the last one, of a piece of n bytes. -/
def from1 (n f : Int) : Int := if f < 0 then max (n + f) 0 else f
def to1 (n t : Int) : Int := if t < 0 then t + n else t
def none1 (n f t : Int) : Prop := min (to1 n t) (n - 1) + 1 ≤ from1 n f
instance (n f t : Int) : Decidable (none1 n f t) := by unfold none1; exact inferInstance
def pfrom (n f t : Int) : Int := if none1 n f t then 0 else from1 n f
def pto (n f t : Int) : Int := if none1 n f t then 0 else min (to1 n t) (n - 1) + 1
theorem places_ok (n f t : Int) (hn : 0 ≤ n) : 0 ≤ pfrom n f t ∧ pfrom n f t ≤ pto n f t ∧ pto n f t ≤ n := by
  unfold pfrom pto
  by_cases h : none1 n f t
  · rw [if_pos h, if_pos h]; omega
  · rw [if_neg h, if_neg h]
    unfold none1 at h
    have : 0 ≤ from1 n f := by unfold from1; split <;> omega
    omega

/-! ### Rows as functions -/
def row (n : Nat) (f : Nat → UInt8) : List UInt8 := (List.range n).map f
theorem row_length (n : Nat) (f : Nat → UInt8) : (row n f).length = n := by simp [row]
theorem row_getD (n : Nat) (f : Nat → UInt8) (i : Nat) : (row n f).getD i 0 = if i < n then f i else 0 := by
  unfold row
  rw [List.getD_eq_getElem?_getD, List.getElem?_map]
  by_cases h : i < n
  · rw [List.getElem?_range h, if_pos h]; rfl
  · rw [List.getElem?_eq_none (by simp; omega), if_neg h]; rfl
theorem row_congr {n : Nat} {f g : Nat → UInt8} (h : ∀ i, i < n → f i = g i) : row n f = row n g := by
  unfold row
  exact List.map_congr_left fun i hi => h i (List.mem_range.1 hi)
theorem getD_out {l : List UInt8} {i : Nat} (h : l.length ≤ i) : l.getD i 0 = 0 := by
  rw [List.getD_eq_getElem?_getD, List.getElem?_eq_none h]; rfl
theorem row_self (l : List UInt8) : row l.length (fun i => l.getD i 0) = l := by
  apply List.ext_getElem (by simp [row])
  intro i h1 h2
  simp only [row, List.getElem_map, List.getElem_range]
  rw [List.getD_eq_getElem?_getD, List.getElem?_eq_getElem h2]; rfl
theorem list_ext {a b : List UInt8} (hl : a.length = b.length) (h : ∀ i, i < a.length → a.getD i 0 = b.getD i 0) : a = b := by
  rw [← row_self a, ← row_self b, ← hl]
  exact row_congr h
theorem take_getD (l : List UInt8) (k i : Nat) : (l.take k).getD i 0 = if i < k then l.getD i 0 else 0 := by
  rw [List.getD_eq_getElem?_getD, List.getElem?_take]
  split <;> simp
theorem drop_getD (l : List UInt8) (k i : Nat) : (l.drop k).getD i 0 = l.getD (k + i) 0 := by
  rw [List.getD_eq_getElem?_getD, List.getElem?_drop, ← List.getD_eq_getElem?_getD]

/-! ### Bits of a byte -/
def bt (c : UInt8) (r : Nat) : Nat := c.toNat / 2 ^ (7 - r) % 2
def msk (r : Nat) : UInt8 := UInt8.ofNat (2 ^ (7 - r))
def setB (c : UInt8) (r : Nat) (v : Int) : UInt8 := if v = 1 then (c &&& ~~~ msk r) ||| msk r else c &&& ~~~ msk r
theorem byte_all {p : UInt8 → Prop} (h : ∀ n : Fin 256, p (UInt8.ofNat n.val)) (c : UInt8) : p c := by
  have := h ⟨c.toNat, c.toNat_lt⟩
  simpa using this
theorem bt_setB0 : ∀ (r : Fin 8) (n : Fin 256), bt (setB (UInt8.ofNat n.val) r.val 0) r.val = 0 := by decide +kernel
theorem bt_setB1 : ∀ (r : Fin 8) (n : Fin 256), bt (setB (UInt8.ofNat n.val) r.val 1) r.val = 1 := by decide +kernel
theorem bt_setB0' : ∀ (r q : Fin 8) (n : Fin 256), q = r ∨ bt (setB (UInt8.ofNat n.val) r.val 0) q.val = bt (UInt8.ofNat n.val) q.val := by decide +kernel
theorem bt_setB1' : ∀ (r q : Fin 8) (n : Fin 256), q = r ∨ bt (setB (UInt8.ofNat n.val) r.val 1) q.val = bt (UInt8.ofNat n.val) q.val := by decide +kernel
theorem setB_back0 : ∀ (r : Fin 8) (n : Fin 256), setB (setB (UInt8.ofNat n.val) r.val 0) r.val (bt (UInt8.ofNat n.val) r.val) = UInt8.ofNat n.val := by decide +kernel
theorem setB_back1 : ∀ (r : Fin 8) (n : Fin 256), setB (setB (UInt8.ofNat n.val) r.val 1) r.val (bt (UInt8.ofNat n.val) r.val) = UInt8.ofNat n.val := by decide +kernel
theorem bt_lt (c : UInt8) (r : Nat) : bt c r < 2 := Nat.mod_lt _ (by omega)
theorem bt_zero (r : Nat) : bt 0 r = 0 := by simp [bt]
theorem bt_set (c : UInt8) (r : Nat) (hr : r < 8) (v : Int) (hv : v = 0 ∨ v = 1) : (bt (setB c r v) r : Int) = v := by
  rcases hv with rfl | rfl
  · have := byte_all (p := fun c => bt (setB c r 0) r = 0) (fun n => bt_setB0 ⟨r, hr⟩ n) c; rw [this]; rfl
  · have := byte_all (p := fun c => bt (setB c r 1) r = 1) (fun n => bt_setB1 ⟨r, hr⟩ n) c; rw [this]; rfl
theorem bt_set_far (c : UInt8) (r q : Nat) (hr : r < 8) (hq : q < 8) (v : Int) (hv : v = 0 ∨ v = 1) (h : q ≠ r) : bt (setB c r v) q = bt c q := by
  have hne : (⟨q, hq⟩ : Fin 8) ≠ ⟨r, hr⟩ := fun e => h (congrArg Fin.val e)
  rcases hv with rfl | rfl
  · exact (byte_all (p := fun c => (⟨q, hq⟩ : Fin 8) = ⟨r, hr⟩ ∨ bt (setB c r 0) q = bt c q) (fun n => bt_setB0' ⟨r, hr⟩ ⟨q, hq⟩ n) c).resolve_left hne
  · exact (byte_all (p := fun c => (⟨q, hq⟩ : Fin 8) = ⟨r, hr⟩ ∨ bt (setB c r 1) q = bt c q) (fun n => bt_setB1' ⟨r, hr⟩ ⟨q, hq⟩ n) c).resolve_left hne
theorem setB_back (c : UInt8) (r : Nat) (hr : r < 8) (v : Int) (hv : v = 0 ∨ v = 1) : setB (setB c r v) r (bt c r) = c := by
  rcases hv with rfl | rfl
  · exact byte_all (p := fun c => setB (setB c r 0) r (bt c r) = c) (fun n => setB_back0 ⟨r, hr⟩ n) c
  · exact byte_all (p := fun c => setB (setB c r 1) r (bt c r) = c) (fun n => setB_back1 ⟨r, hr⟩ n) c

/-! ### Bits of a text -/
def bitL (l : List UInt8) (i : Nat) : Nat := bt (l.getD (i / 8) 0) (i % 8)
theorem bitL_lt (l : List UInt8) (i : Nat) : bitL l i < 2 := bt_lt _ _
theorem bitL_out {l : List UInt8} {i : Nat} (h : l.length ≤ i / 8) : bitL l i = 0 := by unfold bitL; rw [getD_out h, bt_zero]
def setF (l : List UInt8) (a : Nat) (v : Int) (i : Nat) : UInt8 := if i = a / 8 then setB (l.getD i 0) (a % 8) v else l.getD i 0
def setL (l : List UInt8) (a : Nat) (v : Int) : List UInt8 := row (max l.length (a / 8 + 1)) (setF l a v)
theorem setL_length (l : List UInt8) (a : Nat) (v : Int) : (setL l a v).length = max l.length (a / 8 + 1) := row_length _ _
theorem setL_getD (l : List UInt8) (a : Nat) (v : Int) (i : Nat) : (setL l a v).getD i 0 = setF l a v i := by
  unfold setL
  rw [row_getD]
  by_cases h : i < max l.length (a / 8 + 1)
  · rw [if_pos h]
  · rw [if_neg h]; unfold setF; rw [if_neg (by omega), getD_out (by omega)]
theorem bitL_set (l : List UInt8) (a : Nat) (v : Int) (hv : v = 0 ∨ v = 1) : (bitL (setL l a v) a : Int) = v := by
  unfold bitL
  rw [setL_getD]; unfold setF; rw [if_pos rfl]
  exact bt_set _ _ (Nat.mod_lt _ (by omega)) v hv
theorem bitL_set_far (l : List UInt8) (a b : Nat) (v : Int) (hv : v = 0 ∨ v = 1) (h : b ≠ a) : bitL (setL l a v) b = bitL l b := by
  unfold bitL
  rw [setL_getD]; unfold setF
  by_cases hb : b / 8 = a / 8
  · rw [if_pos hb]
    exact bt_set_far _ _ _ (Nat.mod_lt _ (by omega)) (Nat.mod_lt _ (by omega)) v hv (by omega)
  · rw [if_neg hb]
/-- A text with bytes 0 behind it. -/
def padL (l : List UInt8) (n : Nat) : List UInt8 := row (max l.length n) (fun i => l.getD i 0)
theorem set_back (l : List UInt8) (a : Nat) (v : Int) (hv : v = 0 ∨ v = 1) : setL (setL l a v) a (bitL l a) = padL l (a / 8 + 1) := by
  unfold padL
  rw [setL.eq_1 (setL l a v), setL_length, show max (max l.length (a / 8 + 1)) (a / 8 + 1) = max l.length (a / 8 + 1) by omega]
  apply row_congr
  intro i hi
  unfold setF
  rw [setL_getD]; unfold setF
  by_cases h : i = a / 8
  · rw [if_pos h, if_pos h, h]
    exact setB_back _ _ (Nat.mod_lt _ (by omega)) v hv
  · rw [if_neg h, if_neg h]
/-- Is a text another one with bytes 0 behind it? -/
def Zeros (long short : List UInt8) : Prop := short.length ≤ long.length ∧ long.take short.length = short ∧ ∀ i, short.length ≤ i → i < long.length → long.getD i 0 = 0
theorem zeros_pad (l : List UInt8) (n : Nat) : Zeros (padL l n) l := by
  refine ⟨?_, ?_, fun i h1 h2 => ?_⟩
  · rw [padL, row_length]; omega
  · apply list_ext (by rw [List.length_take, padL, row_length]; omega)
    intro i hi
    rw [List.length_take] at hi
    rw [take_getD, if_pos (by omega), padL, row_getD, if_pos (by omega)]
  · rw [padL, row_length] at h2
    rw [padL, row_getD, if_pos (by omega), getD_out h1]

/-! ### Laying over -/
def layF (l : List UInt8) (a : Nat) (t : List UInt8) (i : Nat) : UInt8 := if a ≤ i ∧ i < a + t.length then t.getD (i - a) 0 else l.getD i 0
def layL (l : List UInt8) (a : Nat) (t : List UInt8) : List UInt8 := row (max l.length (a + t.length)) (layF l a t)
theorem layL_length (l : List UInt8) (a : Nat) (t : List UInt8) : (layL l a t).length = max l.length (a + t.length) := row_length _ _
theorem layL_getD (l : List UInt8) (a : Nat) (t : List UInt8) (i : Nat) : (layL l a t).getD i 0 = layF l a t i := by
  unfold layL
  rw [row_getD]
  by_cases h : i < max l.length (a + t.length)
  · rw [if_pos h]
  · rw [if_neg h]; unfold layF; rw [if_neg (by omega), getD_out (by omega)]
theorem lay_mid (l : List UInt8) (a : Nat) (t : List UInt8) : ((layL l a t).drop a).take t.length = t := by
  apply list_ext (by rw [List.length_take, List.length_drop, layL_length]; omega)
  intro i hi
  rw [List.length_take, List.length_drop, layL_length] at hi
  rw [take_getD, if_pos (by omega), drop_getD, layL_getD]
  unfold layF
  rw [if_pos (by omega), show a + i - a = i by omega]
theorem lay_head (l : List UInt8) (a : Nat) (t : List UInt8) (k : Nat) (hk : k ≤ a) (hl : k ≤ l.length) : (layL l a t).take k = l.take k := by
  apply list_ext (by rw [List.length_take, List.length_take, layL_length]; omega)
  intro i hi
  rw [List.length_take, layL_length] at hi
  rw [take_getD, if_pos (by omega), take_getD, if_pos (by omega), layL_getD]
  unfold layF
  rw [if_neg (by omega)]
theorem lay_zeros (l : List UInt8) (a : Nat) (t : List UInt8) (ht : 0 < t.length) : Zeros ((layL l a t).take a) (l.take (min a l.length)) := by
  have hl : (l.take (min a l.length)).length = min a l.length := by rw [List.length_take]; omega
  have hL : ((layL l a t).take a).length = a := by rw [List.length_take, layL_length]; omega
  refine ⟨by rw [hl, hL]; omega, ?_, fun i h1 h2 => ?_⟩
  · rw [hl, List.take_take, show min (min a l.length) a = min a l.length by omega]
    exact lay_head l a t _ (by omega) (by omega)
  · rw [hl] at h1
    rw [hL] at h2
    rw [take_getD, if_pos h2, layL_getD]
    unfold layF
    rw [if_neg (by omega), getD_out (by omega)]
theorem lay_tail (l : List UInt8) (a : Nat) (t : List UInt8) (h : a + t.length ≤ l.length) : (layL l a t).drop (a + t.length) = l.drop (a + t.length) := by
  apply list_ext (by rw [List.length_drop, List.length_drop, layL_length]; omega)
  intro i hi
  rw [drop_getD, drop_getD, layL_getD]
  unfold layF
  rw [if_neg (by omega)]

/-! ### How many bits are 1 -/
def ones (c : UInt8) : Nat := Go.Lib.onesCount c.toNat
def pop (l : List UInt8) : Nat := (l.map ones).sum
theorem pop_nil : pop [] = 0 := rfl
theorem pop_snoc (l : List UInt8) (c : UInt8) : pop (l ++ [c]) = pop l + ones c := by simp [pop]
theorem pop_append (a b : List UInt8) : pop (a ++ b) = pop a + pop b := by simp [pop]
theorem ones_all : ∀ n : Fin 256, ones (UInt8.ofNat n.val) = bt (UInt8.ofNat n.val) 0 + bt (UInt8.ofNat n.val) 1 + bt (UInt8.ofNat n.val) 2 + bt (UInt8.ofNat n.val) 3 + bt (UInt8.ofNat n.val) 4 + bt (UInt8.ofNat n.val) 5 + bt (UInt8.ofNat n.val) 6 + bt (UInt8.ofNat n.val) 7 := by decide +kernel
theorem ones_bt (c : UInt8) : ones c = bt c 0 + bt c 1 + bt c 2 + bt c 3 + bt c 4 + bt c 5 + bt c 6 + bt c 7 := byte_all (p := fun c => ones c = bt c 0 + bt c 1 + bt c 2 + bt c 3 + bt c 4 + bt c 5 + bt c 6 + bt c 7) ones_all c
theorem ones_le (c : UInt8) : ones c ≤ 8 := by
  rw [ones_bt]
  have h := bt_lt c
  have := h 0; have := h 1; have := h 2; have := h 3; have := h 4; have := h 5; have := h 6; have := h 7
  omega
theorem pop_le (l : List UInt8) : pop l ≤ 8 * l.length := by
  induction l with
  | nil => simp [pop]
  | cons c l ih => have := ones_le c; simp only [pop, List.map_cons, List.sum_cons, List.length_cons] at *; omega
/-- The bits from a on, n of them. -/
def cnt (l : List UInt8) (a : Nat) : Nat → Nat
  | 0 => 0
  | n + 1 => cnt l a n + bitL l (a + n)
theorem cnt_le (l : List UInt8) (a n : Nat) : cnt l a n ≤ n := by
  induction n with
  | zero => exact Nat.le_refl _
  | succ n ih => have := bitL_lt l (a + n); simp only [cnt]; omega
theorem cnt_byte (l : List UInt8) (f n : Nat) : cnt l (8 * f) (8 * (n + 1)) = cnt l (8 * f) (8 * n) + ones (l.getD (f + n) 0) := by
  have e : 8 * (n + 1) = 8 * n + 1 + 1 + 1 + 1 + 1 + 1 + 1 + 1 := by omega
  have hb : ∀ r, r < 8 → bitL l (8 * f + (8 * n + r)) = bt (l.getD (f + n) 0) r := fun r hr => by
    unfold bitL
    rw [show (8 * f + (8 * n + r)) / 8 = f + n by omega, show (8 * f + (8 * n + r)) % 8 = r by omega]
  rw [e]
  simp only [cnt]
  have h0 := hb 0 (by omega); have h1 := hb 1 (by omega); have h2 := hb 2 (by omega); have h3 := hb 3 (by omega)
  have h4 := hb 4 (by omega); have h5 := hb 5 (by omega); have h6 := hb 6 (by omega); have h7 := hb 7 (by omega)
  simp only [Nat.add_assoc, Nat.add_zero] at h0 h1 h2 h3 h4 h5 h6 h7 ⊢
  rw [h0, h1, h2, h3, h4, h5, h6, h7, ones_bt]
  omega
theorem cnt_pop (l : List UInt8) (f : Nat) : ∀ n, f + n ≤ l.length → cnt l (8 * f) (8 * n) = pop ((l.drop f).take n)
  | 0, _ => by simp [cnt, pop]
  | n + 1, h => by
    have hlt : n < (l.drop f).length := by simp; omega
    rw [cnt_byte, cnt_pop l f n (by omega), List.take_succ_eq_append_getElem hlt, pop_snoc]
    congr 2
    rw [List.getElem_drop, List.getD_eq_getElem?_getD, List.getElem?_eq_getElem (by omega)]
    rfl

/-! ### The first bit of a value -/
/-- The first bit of value v from a on and ahead of b; -1: none. -/
def IsFirst (l : List UInt8) (v : Nat) (a b : Nat) (x : Int) : Prop :=
  (x = -1 ∧ ∀ i, a ≤ i → i < b → bitL l i ≠ v) ∨ ∃ i : Nat, x = i ∧ a ≤ i ∧ i < b ∧ bitL l i = v ∧ ∀ j, a ≤ j → j < i → bitL l j ≠ v
theorem IsFirst.eq {l : List UInt8} {v a b : Nat} {x y : Int} (h : IsFirst l v a b x) (h' : IsFirst l v a b y) : x = y := by
  rcases h with ⟨rfl, h⟩ | ⟨i, rfl, h1, h2, h3, h4⟩ <;> rcases h' with ⟨rfl, h'⟩ | ⟨j, rfl, g1, g2, g3, g4⟩
  · rfl
  · exact absurd g3 (h j g1 g2)
  · exact absurd h3 (h' i h1 h2)
  · rcases Nat.lt_trichotomy i j with e | e | e
    · exact absurd h3 (g4 i h1 e)
    · rw [e]
    · exact absurd g3 (h4 j g1 e)
def lz (c : UInt8) : Nat := 8 - Go.Lib.bitLen c.toNat
theorem lz_all : ∀ n : Fin 256, n.val = 0 ∨ (lz (UInt8.ofNat n.val) < 8 ∧ bt (UInt8.ofNat n.val) (lz (UInt8.ofNat n.val)) = 1 ∧ ∀ r : Fin 8, r.val < lz (UInt8.ofNat n.val) → bt (UInt8.ofNat n.val) r.val = 0) := by decide +kernel
theorem lz_ok (c : UInt8) (h : c ≠ 0) : lz c < 8 ∧ bt c (lz c) = 1 ∧ ∀ r, r < lz c → bt c r = 0 := by
  have h1 := byte_all (p := fun c => c.toNat = 0 ∨ (lz c < 8 ∧ bt c (lz c) = 1 ∧ ∀ r : Fin 8, r.val < lz c → bt c r.val = 0)) (fun n => by
    have := lz_all n
    have e : (UInt8.ofNat n.val).toNat = n.val := by simp
    rw [e]; exact this) c
  have h0 : c.toNat ≠ 0 := fun e => h (by rw [← UInt8.toNat_inj]; exact e)
  obtain ⟨a, b, r⟩ := h1.resolve_left h0
  exact ⟨a, b, fun q hq => r ⟨q, by omega⟩ hq⟩
theorem bt_not_all : ∀ (r : Fin 8) (n : Fin 256), bt (~~~ UInt8.ofNat n.val) r.val = 1 - bt (UInt8.ofNat n.val) r.val := by decide +kernel
theorem bt_not (c : UInt8) (r : Nat) (hr : r < 8) : bt (~~~ c) r = 1 - bt c r := byte_all (p := fun c => bt (~~~ c) r = 1 - bt c r) (fun n => bt_not_all ⟨r, hr⟩ n) c
/-- The byte in which a bit of value v is a 1. -/
def asOne (v : Nat) (c : UInt8) : UInt8 := if v = 0 then ~~~ c else c
theorem bt_asOne (v : Nat) (hv : v < 2) (c : UInt8) (r : Nat) (hr : r < 8) : bt (asOne v c) r = 1 ↔ bt c r = v := by
  unfold asOne
  have := bt_lt c r
  by_cases h : v = 0
  · rw [if_pos h, bt_not c r hr]; omega
  · rw [if_neg h]; omega
theorem none_in {v : Nat} (hv : v < 2) {l : List UInt8} {k : Nat} (h : asOne v (l.getD k 0) = 0) (i : Nat) (hi : i / 8 = k) : bitL l i ≠ v := by
  intro e
  unfold bitL at e
  rw [hi] at e
  have := (bt_asOne v hv _ (i % 8) (Nat.mod_lt _ (by omega))).2 e
  rw [h, bt_zero] at this
  omega
theorem first_in {v : Nat} (hv : v < 2) {l : List UInt8} {f t k : Nat} (hk : f ≤ k) (hkt : k < t) (hno : ∀ i, 8 * f ≤ i → i < 8 * k → bitL l i ≠ v) (h : asOne v (l.getD k 0) ≠ 0) :
    IsFirst l v (8 * f) (8 * t) ((8 * k + lz (asOne v (l.getD k 0)) : Nat) : Int) := by
  obtain ⟨h1, h2, h3⟩ := lz_ok _ h
  have hb : ∀ r, r < 8 → bitL l (8 * k + r) = bt (l.getD k 0) r := fun r hr => by
    unfold bitL
    rw [show (8 * k + r) / 8 = k by omega, show (8 * k + r) % 8 = r by omega]
  refine .inr ⟨_, rfl, by omega, by omega, ?_, fun j hj1 hj2 => ?_⟩
  · rw [hb _ h1]
    exact (bt_asOne v hv _ _ h1).1 h2
  · by_cases hjk : j < 8 * k
    · exact hno j hj1 hjk
    · obtain ⟨r, rfl⟩ := Nat.exists_eq_add_of_le (show 8 * k ≤ j by omega)
      have hr : r < lz (asOne v (l.getD k 0)) := by omega
      rw [hb r (by omega)]
      intro e
      have := (bt_asOne v hv _ r (by omega)).2 e
      rw [h3 r hr] at this
      omega

/-! ### Texts joined bit by bit -/
def opB (op : Int) (a b : UInt8) : UInt8 := if op = 1 then a &&& b else if op = 2 then a ||| b else if op = 3 then a ^^^ b else a
def opF (op : Int) (ls : List (List UInt8)) (k : Nat) : UInt8 := (ls.drop 1).foldl (fun c l => opB op c (l.getD k 0)) ((ls.getD 0 []).getD k 0)
def opG (op : Int) (ls : List (List UInt8)) (k : Nat) : UInt8 := if op = 4 then ~~~ opF op ls k else opF op ls k
def maxL (ls : List (List UInt8)) : Nat := ls.foldl (fun n l => max n l.length) 0
def opL (op : Int) (ls : List (List UInt8)) : List UInt8 := row (maxL ls) (opG op ls)
theorem opF_snoc (op : Int) (ls : List (List UInt8)) (l : List UInt8) (k : Nat) (h : ls ≠ []) : opF op (ls ++ [l]) k = opB op (opF op ls k) (l.getD k 0) := by
  cases ls with
  | nil => exact absurd rfl h
  | cons a ls => simp [opF]
theorem opF_one (op : Int) (l : List UInt8) (k : Nat) : opF op [l] k = l.getD k 0 := rfl
theorem maxL_snoc (ls : List (List UInt8)) (l : List UInt8) : maxL (ls ++ [l]) = max (maxL ls) l.length := by simp [maxL]
theorem maxL_le {ls : List (List UInt8)} {n : Nat} (h : ∀ l ∈ ls, l.length ≤ n) : maxL ls ≤ n := by
  have : ∀ (ls : List (List UInt8)) (m : Nat), m ≤ n → (∀ l ∈ ls, l.length ≤ n) → ls.foldl (fun n l => max n l.length) m ≤ n := by
    intro ls
    induction ls with
    | nil => intro m hm _; exact hm
    | cons a ls ih => intro m hm h; exact ih _ (Nat.max_le.2 ⟨hm, h a (by simp)⟩) (fun l hl => h l (by simp [hl]))
  exact this ls 0 (by omega) h
theorem le_maxL {ls : List (List UInt8)} {l : List UInt8} (h : l ∈ ls) : l.length ≤ maxL ls := by
  have mono : ∀ (ls : List (List UInt8)) (m : Nat), m ≤ ls.foldl (fun n l => max n l.length) m := by
    intro ls
    induction ls with
    | nil => intro m; exact Nat.le_refl _
    | cons a ls ih => intro m; exact Nat.le_trans (Nat.le_max_left _ _) (ih _)
  have : ∀ (ls : List (List UInt8)) (m : Nat), l ∈ ls → l.length ≤ ls.foldl (fun n l => max n l.length) m := by
    intro ls
    induction ls with
    | nil => intro m h; cases h
    | cons a ls ih =>
      intro m h
      rcases List.mem_cons.1 h with rfl | h
      · exact Nat.le_trans (Nat.le_max_right _ _) (mono ls _)
      · exact ih _ h
  exact this ls 0 h
theorem not_sub_all : ∀ n : Fin 256, (255 : UInt8) - UInt8.ofNat n.val = ~~~ UInt8.ofNat n.val := by decide +kernel
theorem not_sub (c : UInt8) : 255 - c = ~~~ c := byte_all (p := fun c => 255 - c = ~~~ c) not_sub_all c

/-! ### Sums of bits of joined texts -/
theorem bt_bits : ∀ (a b : Bool), ((a && b).toNat + (a || b).toNat) = a.toNat + b.toNat := by decide
theorem bt_testBit (c : UInt8) (r : Nat) : bt c r = (c.toNat.testBit (7 - r)).toNat := by
  unfold bt
  rw [Nat.toNat_testBit]
theorem bt_and_or (a b : UInt8) (r : Nat) : bt (a &&& b) r + bt (a ||| b) r = bt a r + bt b r := by
  rw [bt_testBit, bt_testBit, bt_testBit, bt_testBit, UInt8.toNat_and, UInt8.toNat_or, Nat.testBit_and, Nat.testBit_or]
  exact bt_bits _ _
theorem ones_and_or (a b : UInt8) : ones (a &&& b) + ones (a ||| b) = ones a + ones b := by
  have h := bt_and_or a b
  have := h 0; have := h 1; have := h 2; have := h 3; have := h 4; have := h 5; have := h 6; have := h 7
  rw [ones_bt, ones_bt, ones_bt a, ones_bt b]
  omega
theorem ones_not_all : ∀ n : Fin 256, ones (UInt8.ofNat n.val) + ones (~~~ UInt8.ofNat n.val) = 8 := by decide +kernel
theorem ones_not (c : UInt8) : ones c + ones (~~~ c) = 8 := byte_all (p := fun c => ones c + ones (~~~ c) = 8) ones_not_all c
theorem ones_zero : ones 0 = 0 := by decide
theorem pop_row (n : Nat) (f : Nat → UInt8) : pop (row n f) = ((List.range n).map fun i => ones (f i)).sum := by simp [pop, row, Function.comp_def]
theorem sum_add (n : Nat) (f g h k : Nat → Nat) (e : ∀ i, i < n → f i + g i = h i + k i) : ((List.range n).map f).sum + ((List.range n).map g).sum = ((List.range n).map h).sum + ((List.range n).map k).sum := by
  induction n with
  | zero => rfl
  | succ n ih =>
    have := ih (fun i hi => e i (by omega))
    have := e n (by omega)
    simp only [List.range_succ, List.map_append, List.map_cons, List.map_nil, List.sum_append, List.sum_cons, List.sum_nil]
    omega
theorem pop_pad (l : List UInt8) (n : Nat) (h : l.length ≤ n) : pop (row n fun i => l.getD i 0) = pop l := by
  have : row n (fun i => l.getD i 0) = l ++ row (n - l.length) (fun _ => 0) := by
    apply list_ext (by rw [List.length_append, row_length, row_length]; omega)
    intro i hi
    rw [row_length] at hi
    rw [row_getD, if_pos hi]
    by_cases hl : i < l.length
    · rw [List.getD_eq_getElem?_getD, List.getD_eq_getElem?_getD, List.getElem?_append_left hl]
    · rw [List.getD_eq_getElem?_getD (l := l ++ row (n - l.length) fun _ => 0), List.getElem?_append_right (by omega), ← List.getD_eq_getElem?_getD, row_getD, if_pos (by omega), getD_out (by omega)]
  rw [this, pop_append]
  have z : ∀ m, pop (row m fun _ => 0) = 0 := by
    intro m
    induction m with
    | zero => rfl
    | succ m ih =>
      have : row (m + 1) (fun _ => (0 : UInt8)) = row m (fun _ => 0) ++ [0] := by simp [row, List.range_succ]
      rw [this, pop_snoc, ih, ones_zero]
  rw [z]; rfl
theorem pop_and_or (s t : List UInt8) : pop (opL 1 [s, t]) + pop (opL 2 [s, t]) = pop s + pop t := by
  have hm : maxL [s, t] = max s.length t.length := by simp [maxL]
  unfold opL
  rw [hm, ← pop_pad s (max s.length t.length) (by omega), ← pop_pad t (max s.length t.length) (by omega), pop_row, pop_row, pop_row, pop_row]
  apply sum_add
  intro i hi
  simp only [opG, opF, opB]
  simp only [show ¬ ((1 : Int) = 4) by omega, show ¬ ((2 : Int) = 4) by omega, show ¬ ((2 : Int) = 1) by omega, if_true, if_false, List.drop_succ_cons, List.drop_zero, List.foldl_cons, List.foldl_nil, List.getD_cons_zero]
  exact ones_and_or _ _
theorem pop_not (s : List UInt8) : pop s + pop (opL 4 [s]) = 8 * s.length := by
  have hm : maxL [s] = s.length := by simp [maxL]
  have hs : pop s = ((List.range s.length).map fun i => ones (s.getD i 0)).sum := by rw [← pop_row, row_self]
  unfold opL
  rw [hm, pop_row, hs]
  have : ∀ n, ((List.range n).map fun i => ones (s.getD i 0)).sum + ((List.range n).map fun i => ones (opG 4 [s] i)).sum = 8 * n := by
    intro n
    induction n with
    | zero => rfl
    | succ n ih =>
      simp only [List.range_succ, List.map_append, List.map_cons, List.map_nil, List.sum_append, List.sum_cons, List.sum_nil]
      have : ones (s.getD n 0) + ones (opG 4 [s] n) = 8 := by
        simp only [opG, opF, if_true, List.drop_succ_cons, List.drop_zero, List.foldl_nil, List.getD_cons_zero]
        exact ones_not _
      omega
  exact this _
theorem not_not (s : List UInt8) : opL 4 [opL 4 [s]] = s := by
  have e : ∀ s : List UInt8, opL 4 [s] = row s.length (fun k => ~~~ s.getD k 0) := fun s => by
    unfold opL
    rw [show maxL [s] = s.length by simp [maxL]]
    apply row_congr
    intro i _
    simp [opG, opF]
  rw [e, e, row_length]
  conv => rhs; rw [← row_self s]
  apply row_congr
  intro i hi
  rw [row_getD, if_pos hi]
  exact UInt8.not_not
theorem xor_self (s : List UInt8) : opL 3 [s, s] = row s.length (fun _ => 0) := by
  unfold opL
  rw [show maxL [s, s] = s.length by simp [maxL]]
  apply row_congr
  intro i _
  simp [opG, opF, opB]
theorem zeros_row (n : Nat) : Zeros (row n fun _ => 0) [] := by
  refine ⟨by simp, by simp, fun i _ h => ?_⟩
  rw [row_length] at h
  rw [row_getD, if_pos h]
end Go.Proofs.YtgdebcpnihibjaaDoor.Pl
