/- Plain laws on groups as bytes. No program is in sight. -/
import Derived.Test.YtehggdflhjgkeaaPlainNum
namespace Go.Proofs.Ytehggdflhjgkeaa.Pl

def maxG : Nat := 1073741824
def front (len n : Nat) : List UInt8 := fixL len 8 ++ fixL n 8
def tail (n : Nat) (body : List UInt8) : List UInt8 := fixL (crc (fixL n 8 ++ body)) 4 ++ [10]
/-- The bytes of a group. -/
def encL (n : Nat) (body : List UInt8) : List UInt8 := front body.length n ++ (fixL (crc (front body.length n)) 4 ++ (body ++ tail n body))
def okG (n : Nat) (body : List UInt8) : Bool := decide (n ≠ 0 ∧ body.length ≤ maxG)

/-- What a reader tells: the number, the body, how many bytes, the error. -/
structure Got where
  num : Nat
  body : List UInt8
  used : Nat
  err : Nat
def Got.bad (e : Nat) : Got := ⟨0, [], 0, e⟩

def sizeOf (s : List UInt8) : Nat := num (s.take 8)
def numOf (s : List UInt8) : Nat := num ((s.drop 8).take 8)
def bodyOf (s : List UInt8) : List UInt8 := (s.drop 20).take (sizeOf s)
def headSum (s : List UInt8) : Bool := decide (fixL (crc (s.take 16)) 4 = (s.drop 16).take 4)
def bodySum (s : List UInt8) : Bool := decide (fixL (crc ((s.drop 8).take 8 ++ bodyOf s)) 4 = (s.drop (20 + sizeOf s)).take 4)
def dec (s : List UInt8) : Got :=
  if s.length < 20 then .bad 251
  else if headSum s = false then .bad 252
  else if numOf s = 0 ∨ maxG < sizeOf s then .bad 250
  else if s.length < 25 + sizeOf s then .bad 251
  else if bodySum s = false ∨ s.getD (24 + sizeOf s) 0 ≠ 10 then .bad 252
  else ⟨numOf s, bodyOf s, 25 + sizeOf s, 0⟩

theorem front_length (a b : Nat) : (front a b).length = 16 := by simp [front, fixL_length]
theorem tail_length (n : Nat) (b : List UInt8) : (tail n b).length = 5 := by simp [tail, fixL_length]
theorem encL_length (n : Nat) (b : List UInt8) : (encL n b).length = 25 + b.length := by
  simp [encL, front_length, tail_length, fixL_length]; omega

theorem take_front {a b : List UInt8} {k : Nat} (h : a.length = k) : (a ++ b).take k = a := by subst h; simp
theorem drop_front {a b : List UInt8} {k : Nat} (h : a.length = k) : (a ++ b).drop k = b := by subst h; simp

section
variable {n : Nat} {b : List UInt8} (x : List UInt8)
/-- A text that begins as a group does, up to its 16 first bytes. -/
theorem size_of_front (hb : b.length ≤ maxG) : sizeOf (front b.length n ++ x) = b.length := by
  unfold sizeOf front
  rw [List.append_assoc, take_front (fixL_length _ _), num_fixL, Nat.mod_eq_of_lt]
  unfold maxG at hb; omega
theorem num_of_front (hn : n < 18446744073709551616) : numOf (front b.length n ++ x) = n := by
  unfold numOf front
  rw [List.append_assoc, drop_front (fixL_length _ _), take_front (fixL_length _ _), num_fixL, Nat.mod_eq_of_lt]
  omega
theorem num8_of_front : ((front b.length n ++ x).drop 8).take 8 = fixL n 8 := by
  unfold front
  rw [List.append_assoc, drop_front (fixL_length _ _), take_front (fixL_length _ _)]
theorem headSum_of {y : List UInt8} (hy : y.length = 4) : headSum (front b.length n ++ (y ++ x)) = decide (fixL (crc (front b.length n)) 4 = y) := by
  unfold headSum
  rw [take_front (front_length _ _), drop_front (front_length _ _), take_front hy]
theorem drop20_of {y : List UInt8} (hy : y.length = 4) : (front b.length n ++ (y ++ x)).drop 20 = x := by
  rw [← List.append_assoc, drop_front (by simp [front_length, hy])]
end

theorem dec_back {n : Nat} {b : List UInt8} (hn0 : n ≠ 0) (hn : n < 18446744073709551616) (hb : b.length ≤ maxG) (x : List UInt8) :
    dec (encL n b ++ x) = ⟨n, b, 25 + b.length, 0⟩ := by
  have hlen : (encL n b ++ x).length = 25 + b.length + x.length := by rw [List.length_append, encL_length]
  have e : encL n b ++ x = front b.length n ++ (fixL (crc (front b.length n)) 4 ++ (b ++ (tail n b ++ x))) := by simp [encL]
  have hs : sizeOf (encL n b ++ x) = b.length := by rw [e]; exact size_of_front _ hb
  have hnum : numOf (encL n b ++ x) = n := by rw [e]; exact num_of_front _ hn
  have hh : headSum (encL n b ++ x) = true := by rw [e, headSum_of _ (fixL_length _ _)]; simp
  have hbody : bodyOf (encL n b ++ x) = b := by
    unfold bodyOf
    rw [hs, e, drop20_of _ (fixL_length _ _), take_front rfl]
  have hd : (encL n b ++ x).drop (20 + b.length) = tail n b ++ x := by
    rw [← List.drop_drop, e, drop20_of _ (fixL_length _ _), drop_front rfl]
  have hbs : bodySum (encL n b ++ x) = true := by
    unfold bodySum
    rw [hbody, hs, hd]
    have h8 : ((encL n b ++ x).drop 8).take 8 = fixL n 8 := by rw [e]; exact num8_of_front _
    rw [h8]
    unfold tail
    rw [List.append_assoc, take_front (fixL_length _ _)]
    simp
  have hlast : (encL n b ++ x).getD (24 + b.length) 0 = 10 := by
    have : (encL n b ++ x).getD (20 + b.length + 4) 0 = (tail n b ++ x).getD 4 0 := by
      rw [← hd]; simp [List.getD, List.getElem?_drop]
    rw [show 24 + b.length = 20 + b.length + 4 by omega, this]
    unfold tail
    simp [List.getD, fixL_length]
  unfold dec
  rw [if_neg (by omega), if_neg (by rw [hh]; simp), hnum, hs, if_neg (by simp only [hn0, false_or]; omega), if_neg (by omega), hbs, hlast, hbody]
  simp

theorem dec_torn {n : Nat} {b : List UInt8} (hn0 : n ≠ 0) (hn : n < 18446744073709551616) (hb : b.length ≤ maxG) {k : Nat} (hk : k < (encL n b).length) :
    dec ((encL n b).take k) = .bad 251 := by
  rw [encL_length] at hk
  have hlen : ((encL n b).take k).length = k := by rw [List.length_take, encL_length]; omega
  unfold dec
  by_cases h20 : k < 20
  · rw [if_pos (by omega)]
  · have e : (encL n b).take k = front b.length n ++ (fixL (crc (front b.length n)) 4 ++ (b ++ tail n b).take (k - 20)) := by
      unfold encL
      rw [List.take_append, List.take_of_length_le (by rw [front_length]; omega), front_length, List.take_append, List.take_of_length_le (by rw [fixL_length]; omega), fixL_length]
      congr 3
    have hs : sizeOf ((encL n b).take k) = b.length := by rw [e]; exact size_of_front _ hb
    have hnum : numOf ((encL n b).take k) = n := by rw [e]; exact num_of_front _ hn
    have hh : headSum ((encL n b).take k) = true := by rw [e, headSum_of _ (fixL_length _ _)]; simp
    rw [if_neg (by omega), if_neg (by rw [hh]; simp), hnum, hs, if_neg (by simp only [hn0, false_or]; omega), if_pos (by omega)]


/-! ### One byte of a group is another one -/
theorem crc_set {l : List UInt8} {k : Nat} {v : UInt8} (hk : k < l.length) (hv0 : l[k]? ≠ some v) : crc (l.set k v) ≠ crc l := by
  have hv : l[k] ≠ v := fun h => hv0 (by rw [List.getElem?_eq_getElem hk, h])
  have e1 : l.set k v = l.take k ++ v :: l.drop (k + 1) := List.set_eq_take_append_cons_drop.trans (if_pos hk)
  have e2 : l = l.take k ++ l[k] :: l.drop (k + 1) := by
    rw [← List.drop_eq_getElem_cons hk, List.take_append_drop]
  rw [e1]
  conv => rhs; rw [e2]
  exact crc_spoilt _ _ _ _ (fun h => hv h.symm)
theorem fix4_inj {a b : Nat} (ha : a < 4294967296) (hb : b < 4294967296) (h : fixL a 4 = fixL b 4) : a = b := by
  have := congrArg num h
  rw [num_fixL, num_fixL] at this
  omega
theorem crc_lt (l : List UInt8) : crc l < 4294967296 := more_lt 0 l
theorem set_ne {l : List UInt8} {k : Nat} {v : UInt8} (hk : k < l.length) (hv : l[k]? ≠ some v) : l.set k v ≠ l := by
  intro h
  rw [← h] at hv
  exact hv (List.getElem?_set_self hk)

theorem dec_badHead {A B R : List UInt8} (hA : A.length = 16) (hB : B.length = 4) (h : fixL (crc A) 4 ≠ B) : dec (A ++ (B ++ R)) = .bad 252 := by
  have hl : ¬ (A ++ (B ++ R)).length < 20 := by simp; omega
  have hs : headSum (A ++ (B ++ R)) = false := by
    unfold headSum
    rw [take_front hA, drop_front hA, take_front hB]
    simpa using h
  unfold dec
  rw [if_neg hl, if_pos hs]

theorem dec_badBody {n : Nat} {b C D : List UInt8} {e : UInt8} (hn0 : n ≠ 0) (hn : n < 18446744073709551616) (hb : b.length ≤ maxG) (hC : C.length = b.length) (hD : D.length = 4)
    (h : fixL (crc (fixL n 8 ++ C)) 4 ≠ D ∨ e ≠ 10) :
    dec (front b.length n ++ (fixL (crc (front b.length n)) 4 ++ (C ++ (D ++ [e])))) = .bad 252 := by
  have hlen : (front b.length n ++ (fixL (crc (front b.length n)) 4 ++ (C ++ (D ++ [e])))).length = 25 + b.length := by
    simp [front_length, fixL_length]; omega
  have hs := size_of_front (n := n) (fixL (crc (front b.length n)) 4 ++ (C ++ (D ++ [e]))) hb
  have hnum := num_of_front (n := n) (b := b) (fixL (crc (front b.length n)) 4 ++ (C ++ (D ++ [e]))) hn
  have hh : headSum (front b.length n ++ (fixL (crc (front b.length n)) 4 ++ (C ++ (D ++ [e])))) = true := by rw [headSum_of _ (fixL_length _ _)]; simp
  have h8 := num8_of_front (n := n) (b := b) (fixL (crc (front b.length n)) 4 ++ (C ++ (D ++ [e])))
  have h20 := drop20_of (n := n) (b := b) (C ++ (D ++ [e])) (y := fixL (crc (front b.length n)) 4) (fixL_length _ _)
  generalize front b.length n ++ (fixL (crc (front b.length n)) 4 ++ (C ++ (D ++ [e]))) = s at *
  have hbody : bodyOf s = C := by unfold bodyOf; rw [hs, h20, take_front hC]
  have hd : s.drop (20 + b.length) = D ++ [e] := by rw [← List.drop_drop, h20, drop_front hC]
  have hbs : bodySum s = decide (fixL (crc (fixL n 8 ++ C)) 4 = D) := by
    unfold bodySum
    rw [hbody, hs, hd, h8, take_front hD]
  have hlast : s.getD (24 + b.length) 0 = e := by
    have : s.getD (20 + b.length + 4) 0 = (D ++ [e]).getD 4 0 := by rw [← hd]; simp [List.getD, List.getElem?_drop]
    rw [show 24 + b.length = 20 + b.length + 4 by omega, this]
    simp [List.getD, hD]
  unfold dec
  rw [if_neg (by omega), if_neg (by rw [hh]; simp), hnum, hs, if_neg (by simp only [hn0, false_or]; omega), if_neg (by omega), hbs, hlast, if_pos (by simpa using h)]

theorem dec_spoilt {n : Nat} {b : List UInt8} (hn0 : n ≠ 0) (hn : n < 18446744073709551616) (hb : b.length ≤ maxG) {k : Nat} {v : UInt8} (hk : k < (encL n b).length) (hv : (encL n b)[k]? ≠ some v) :
    dec ((encL n b).set k v) = .bad 252 := by
  have hL := encL_length n b
  have h16 := front_length b.length n
  have hS := fixL_length (crc (front b.length n)) 4
  have hT := fixL_length (crc (fixL n 8 ++ b)) 4
  by_cases k1 : k < 16
  · have e : (encL n b).set k v = (front b.length n).set k v ++ (fixL (crc (front b.length n)) 4 ++ (b ++ tail n b)) := by
      unfold encL; rw [List.set_append_left _ _ (by omega)]
    have hv' : (front b.length n)[k]? ≠ some v := by
      rw [← List.getElem?_append_left (l₂ := fixL (crc (front b.length n)) 4 ++ (b ++ tail n b)) (by omega)]; exact hv
    rw [e]
    refine dec_badHead (by simp [h16]) hS fun h => ?_
    exact crc_set (by omega) hv' (fix4_inj (crc_lt _) (crc_lt _) h)
  by_cases k2 : k < 20
  · have e : (encL n b).set k v = front b.length n ++ ((fixL (crc (front b.length n)) 4).set (k - 16) v ++ (b ++ tail n b)) := by
      unfold encL; rw [List.set_append_right _ _ (by omega), h16, List.set_append_left _ _ (by omega)]
    have hv' : (fixL (crc (front b.length n)) 4)[k - 16]? ≠ some v := by
      have h := hv
      unfold encL at h
      rwa [List.getElem?_append_right (by omega), h16, List.getElem?_append_left (by omega)] at h
    rw [e]
    refine dec_badHead h16 (by simp [hS]) fun h => ?_
    exact set_ne (by omega) hv' h.symm
  by_cases k3 : k < 20 + b.length
  · have e : (encL n b).set k v = front b.length n ++ (fixL (crc (front b.length n)) 4 ++ (b.set (k - 20) v ++ (fixL (crc (fixL n 8 ++ b)) 4 ++ [10]))) := by
      unfold encL tail
      rw [List.set_append_right _ _ (by omega), h16, List.set_append_right _ _ (by omega), hS, List.set_append_left _ _ (by omega), show k - 16 - 4 = k - 20 by omega]
    have hv' : b[k - 20]? ≠ some v := by
      have h := hv
      unfold encL at h
      rwa [List.getElem?_append_right (by omega), h16, List.getElem?_append_right (by omega), hS, List.getElem?_append_left (by omega), show k - 16 - 4 = k - 20 by omega] at h
    rw [e]
    refine dec_badBody hn0 hn hb (by simp) hT (.inl fun h => ?_)
    have h2 := fix4_inj (crc_lt _) (crc_lt _) h
    have e2 : fixL n 8 ++ b.set (k - 20) v = (fixL n 8 ++ b).set (8 + (k - 20)) v := by
      rw [List.set_append_right _ _ (by rw [fixL_length]; omega), fixL_length]; simp
    rw [e2] at h2
    refine crc_set (by simp [fixL_length]; omega) ?_ h2
    rw [List.getElem?_append_right (by rw [fixL_length]; omega), fixL_length, show 8 + (k - 20) - 8 = k - 20 by omega]
    exact hv'
  by_cases k4 : k < 24 + b.length
  · have e : (encL n b).set k v = front b.length n ++ (fixL (crc (front b.length n)) 4 ++ (b ++ ((fixL (crc (fixL n 8 ++ b)) 4).set (k - 20 - b.length) v ++ [10]))) := by
      unfold encL tail
      rw [List.set_append_right _ _ (by omega), h16, List.set_append_right _ _ (by omega), hS, List.set_append_right _ _ (by omega), List.set_append_left _ _ (by omega), show k - 16 - 4 - b.length = k - 20 - b.length by omega]
    have hv' : (fixL (crc (fixL n 8 ++ b)) 4)[k - 20 - b.length]? ≠ some v := by
      have h := hv
      unfold encL tail at h
      rwa [List.getElem?_append_right (by omega), h16, List.getElem?_append_right (by omega), hS, List.getElem?_append_right (by omega), List.getElem?_append_left (by omega), show k - 16 - 4 - b.length = k - 20 - b.length by omega] at h
    rw [e]
    exact dec_badBody hn0 hn hb rfl (by simp [hT]) (.inl fun h => set_ne (by omega) hv' h.symm)
  · have hk' : k = 24 + b.length := by omega
    have e : (encL n b).set k v = front b.length n ++ (fixL (crc (front b.length n)) 4 ++ (b ++ (fixL (crc (fixL n 8 ++ b)) 4 ++ [v]))) := by
      unfold encL tail
      rw [List.set_append_right _ _ (by omega), h16, List.set_append_right _ _ (by omega), hS, List.set_append_right _ _ (by omega), List.set_append_right _ _ (by omega), hT, show k - 16 - 4 - b.length - 4 = 0 by omega]
      rfl
    have hv' : (10 : UInt8) ≠ v := by
      have h := hv
      unfold encL tail at h
      rw [List.getElem?_append_right (by omega), h16, List.getElem?_append_right (by omega), hS, List.getElem?_append_right (by omega), List.getElem?_append_right (by omega), hT, show k - 16 - 4 - b.length - 4 = 0 by omega] at h
      simpa using h
    rw [e]
    exact dec_badBody hn0 hn hb rfl hT (.inr fun h => hv' h.symm)

end Go.Proofs.Ytehggdflhjgkeaa.Pl
