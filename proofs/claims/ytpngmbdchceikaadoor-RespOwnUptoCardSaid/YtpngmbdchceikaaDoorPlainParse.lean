/- Plain lists of bytes: the number that a text is, by the reference's reading and by strconv's there and back. -/
import Derived.Test.YtpngmbdchceikaaDoorRows
import Derived.Lib.ItoaNum
import Derived.Lib.ParseIntB
namespace Go.Proofs.YtpngmbdchceikaaDoor.Pl
open Go.Lib
set_option linter.unusedVariables false

def valA (a : Nat) (l : List UInt8) : Nat := l.foldl (fun a c => 10 * a + (c.toNat - 48)) a
def isDig (c : UInt8) : Bool := decide (48 ≤ c.toNat ∧ c.toNat ≤ 57)
def digs (l : List UInt8) : Bool := l.all isDig
theorem valA_cons (a : Nat) (c : UInt8) (l : List UInt8) : valA a (c :: l) = valA (10 * a + (c.toNat - 48)) l := by unfold valA; rw [List.foldl_cons]
theorem valA_snoc (a : Nat) (l : List UInt8) (c : UInt8) : valA a (l ++ [c]) = 10 * valA a l + (c.toNat - 48) := by simp [valA, List.foldl_append]
theorem valA_ge (l : List UInt8) : ∀ a : Nat, a ≤ valA a l := by
  induction l with
  | nil => intro a; exact Nat.le_refl _
  | cons c l ih =>
    intro a
    rw [valA_cons]
    have := ih (10 * a + (c.toNat - 48))
    omega
theorem head_app {s t : List UInt8} (h : s ≠ []) : (s ++ t).head? = s.head? := by
  cases s with
  | nil => exact absurd rfl h
  | cons c s => rfl
theorem digs_snoc {l : List UInt8} {c : UInt8} : digs (l ++ [c]) = (digs l && isDig c) := by simp [digs, List.all_append]
theorem isDig_ofNat {d : Nat} (h : d < 10) : isDig (UInt8.ofNat (48 + d)) = true := by
  unfold isDig; simp; omega
theorem toNat_ofNat {d : Nat} (h : d < 10) : (UInt8.ofNat (48 + d)).toNat = 48 + d := by simp; omega
theorem isDig_iff {c : UInt8} : isDig c = true ↔ 48 ≤ c.toNat ∧ c.toNat ≤ 57 := by unfold isDig; simp
theorem ofNat_back {c : UInt8} (h : isDig c = true) : UInt8.ofNat (48 + (c.toNat - 48)) = c := by
  have := isDig_iff.1 h
  rw [show 48 + (c.toNat - 48) = c.toNat by omega]
  simp
/-- The digits of a number: what they are. -/
theorem dec_facts : ∀ (n u : Nat), u ≤ n → digs (decDigits u) = true ∧ valA 0 (decDigits u) = u ∧ decDigits u ≠ [] ∧ (0 < u → (decDigits u).head? ≠ some 48)
  | n, u, hn => by
    rw [decDigits]
    by_cases h : u < 10
    · rw [dif_pos h]
      refine ⟨by unfold digs; rw [List.all_cons, isDig_ofNat h]; rfl, by simp only [valA, List.foldl]; rw [toNat_ofNat h]; omega, by simp, fun h0 e => ?_⟩
      simp only [List.head?_cons, Option.some.injEq] at e
      have e2 := congrArg UInt8.toNat e
      rw [toNat_ofNat h] at e2
      have e3 : (48 : UInt8).toNat = 48 := rfl
      omega
    · rw [dif_neg h]
      obtain ⟨m, rfl⟩ : ∃ m, n = m + 1 := ⟨n - 1, by omega⟩
      obtain ⟨h1, h2, h3, h4⟩ := dec_facts m (u / 10) (by omega)
      have hd : u % 10 < 10 := Nat.mod_lt _ (by omega)
      refine ⟨by rw [digs_snoc, h1, isDig_ofNat hd]; rfl, by rw [valA_snoc, h2, toNat_ofNat hd]; omega, by simp, fun _ => ?_⟩
      rw [head_app h3]
      exact h4 (by omega)
theorem val_pos : ∀ {l : List UInt8}, digs l = true → l ≠ [] → l.head? ≠ some 48 → 0 < valA 0 l
  | [], _, h, _ => absurd rfl h
  | c :: l, hd, _, hh => by
    rw [valA_cons]
    have h1 : isDig c = true := by simp [digs] at hd; exact hd.1
    have h2 := isDig_iff.1 h1
    have h3 : c.toNat ≠ 48 := fun e => hh (by simp only [List.head?_cons, Option.some.injEq]; exact UInt8.toNat_inj.1 e)
    have := valA_ge l (10 * 0 + (c.toNat - 48))
    omega
theorem dec_val : ∀ (n : Nat) (l : List UInt8), l.length = n → digs l = true → l ≠ [] → (l.head? ≠ some 48 ∨ l.length = 1) → decDigits (valA 0 l) = l
  | 0, l, hn, _, h0, _ => absurd (List.length_eq_zero_iff.1 hn) h0
  | n + 1, l, hn, hd, h0, hh => by
    obtain ⟨s, c, rfl⟩ : ∃ s c, l = s ++ [c] := ⟨l.dropLast, l.getLast h0, (List.dropLast_concat_getLast h0).symm⟩
    rw [digs_snoc, Bool.and_eq_true] at hd
    have hc := isDig_iff.1 hd.2
    rw [valA_snoc, decDigits]
    by_cases hs : s = []
    · subst hs
      have hv : 10 * valA 0 [] + (c.toNat - 48) = c.toNat - 48 := by simp [valA]
      rw [hv, dif_pos (by omega), ofNat_back hd.2]
      rfl
    · have hlen : s.length = n := by simp at hn; exact hn
      have hpos : 0 < s.length := List.length_pos_iff.2 hs
      have hsh : s.head? ≠ some 48 := by
        rcases hh with hh | hh
        · rwa [head_app hs] at hh
        · simp at hh; exact absurd hh hs
      have hp := val_pos hd.1 hs hsh
      rw [dif_neg (by omega), show (10 * valA 0 s + (c.toNat - 48)) / 10 = valA 0 s by omega, show (10 * valA 0 s + (c.toNat - 48)) % 10 = c.toNat - 48 by omega, ofNat_back hd.2,
        dec_val n s hlen hd.1 hs (.inl hsh)]

/-- The reference's reading. -/
def below (l : List UInt8) : Bool := decide (1 < l.length) && (l.head? == some 45)
def mag (l : List UInt8) : List UInt8 := if below l then l.tail else l
def bad (l : List UInt8) : Bool := decide ((mag l).length = 0) || decide (19 < (mag l).length) || (((mag l).head? == some 48) && (decide (1 < (mag l).length) || below l))
def refP (l : List UInt8) : Option Int :=
  if bad l = true ∨ digs (mag l) = false then none
  else if below l then (if 9223372036854775808 < valA 0 (mag l) then none else some (-(valA 0 (mag l) : Int)))
  else if 9223372036854775807 < valA 0 (mag l) then none else some (valA 0 (mag l))
theorem refP_itoa {l : List UInt8} {n : Int} (h : refP l = some n) : -9223372036854775808 ≤ n ∧ n ≤ 9223372036854775807 ∧ itoa n = l := by
  unfold refP at h
  split at h
  · cases h
  rename_i hb
  have hd : digs (mag l) = true := by rcases hx : digs (mag l) with _ | _; exact absurd (.inr hx) hb; rfl
  have hbad : bad l = false := by rcases hx : bad l with _ | _; rfl; exact absurd (.inl hx) hb
  unfold bad at hbad
  simp only [Bool.or_eq_false_iff, decide_eq_false_iff_not, Bool.and_eq_false_iff] at hbad
  obtain ⟨⟨h1, h2⟩, h3⟩ := hbad
  have hne : mag l ≠ [] := fun e => h1 (by rw [e]; rfl)
  rcases hbl : below l with _ | _
  · rw [hbl] at h h3
    rw [if_neg (by simp)] at h
    split at h
    · cases h
    rename_i hv
    have hml : mag l = l := by unfold mag; rw [if_neg (by simp [hbl])]
    rw [hml] at h h3 hd hv hne
    obtain rfl : (valA 0 l : Int) = n := by simpa using h
    have hc : l.head? ≠ some 48 ∨ l.length = 1 := by
      rcases h3 with h3 | ⟨h3, _⟩
      · exact .inl (by simpa using h3)
      · exact .inr (by have := List.length_pos_iff.2 hne; omega)
    have e := dec_val _ l rfl hd hne hc
    refine ⟨by omega, by omega, ?_⟩
    unfold itoa
    rw [if_neg (by omega), show (valA 0 l : Int).toNat = valA 0 l by simp, e]
  · rw [hbl] at h h3
    rw [if_pos rfl] at h
    split at h
    · cases h
    rename_i hv
    have hml : mag l = l.tail := by unfold mag; rw [if_pos hbl]
    unfold below at hbl
    rw [Bool.and_eq_true, decide_eq_true_iff, beq_iff_eq] at hbl
    have hl : l = 45 :: l.tail := by
      cases l with
      | nil => simp at hbl
      | cons c r => simp at hbl; rw [hbl.2]; rfl
    rw [hml] at h h3 hd hv hne
    obtain rfl : -(valA 0 l.tail : Int) = n := by simpa using h
    have hc : l.tail.head? ≠ some 48 := by
      rcases h3 with h3 | ⟨_, h3⟩
      · simpa using h3
      · cases h3
    have hp := val_pos hd hne hc
    have e := dec_val _ l.tail rfl hd hne (.inl hc)
    refine ⟨by omega, by omega, ?_⟩
    unfold itoa
    rw [if_pos (by omega), show (-(valA 0 l.tail : Int)).natAbs = valA 0 l.tail by omega, e]
    exact hl.symm
theorem dec_len {u : Nat} (h : u < 10 ^ 19) : (decDigits u).length ≤ 19 := by
  rw [decDigits_length]
  by_cases h0 : nDigits u ≤ 19
  · exact h0
  · exfalso
    have := fun k (h1 : 10 ^ k ≤ u) (h2 : u < 10 ^ (k + 1)) => nDigits_unique k u h1 h2
    have key : ∀ k, u < 10 ^ (k + 1) → nDigits u ≤ k + 1 := by
      intro k
      induction k with
      | zero => intro hk; rw [nDigits_small (by simpa using hk)]; exact Nat.le_refl _
      | succ k ih =>
        intro hk
        by_cases hk2 : u < 10 ^ (k + 1)
        · exact Nat.le_succ_of_le (ih hk2)
        · rw [nDigits_unique (k + 1) u (by omega) hk]; exact Nat.le_refl _
    exact h0 (key 18 h)
theorem refP_of {n : Int} (h1 : -9223372036854775808 ≤ n) (h2 : n ≤ 9223372036854775807) : refP (itoa n) = some n := by
  unfold itoa
  obtain ⟨u, hu⟩ : ∃ u, u = n.natAbs := ⟨_, rfl⟩
  obtain ⟨f1, f2, f3, f4⟩ := dec_facts u u (Nat.le_refl _)
  have fl := dec_len (u := u) (by have : (10 : Nat) ^ 19 = 10000000000000000000 := by decide
                                  omega)
  have fpos := List.length_pos_iff.2 f3
  by_cases hn : n < 0
  · rw [if_pos hn, ← hu]
    have hb : below (45 :: decDigits u) = true := by unfold below; rw [Bool.and_eq_true, decide_eq_true_iff]; exact ⟨by simp; omega, by rfl⟩
    have hm : mag (45 :: decDigits u) = decDigits u := by unfold mag; rw [if_pos hb]; rfl
    unfold refP
    rw [hm, hb, f2, f1]
    have hbad : bad (45 :: decDigits u) = false := by
      unfold bad
      rw [hm]
      have := f4 (by omega)
      simp [this, f3]
      omega
    rw [if_neg (by simp [hbad]), if_pos rfl, if_neg (by omega), hu]
    congr 1
    omega
  · rw [if_neg hn, show n.toNat = u by omega]
    have hb : below (decDigits u) = false := by
      unfold below
      cases hl : decDigits u with
      | nil => rfl
      | cons c r =>
        have : c ≠ 45 := by
          rintro rfl
          rw [hl] at f1
          simp [digs, isDig] at f1
        simp [this]
    have hm : mag (decDigits u) = decDigits u := by unfold mag; rw [hb]; rfl
    unfold refP
    rw [hm, hb, f2, f1]
    have hbad : bad (decDigits u) = false := by
      unfold bad
      rw [hm, hb]
      by_cases h0 : u = 0
      · subst h0
        rw [decDigits_one (by omega)]
        decide
      · have := f4 (by omega)
        simp [this, f3]
        omega
    rw [if_neg (by simp [hbad]), if_neg (by simp), if_neg (by omega)]
    congr 1
    omega
theorem parseM_ok (M : Nat) (hM : M ≤ 18446744073709551615) (l : List UInt8) : ∀ a : Nat, digs l = true → valA a l ≤ M → parseUintM M a l = .ok (valA a l) := by
  induction l with
  | nil => intro a _ _; rfl
  | cons c l ih =>
    intro a hd hv
    have h1 : isDig c = true ∧ digs l = true := by simpa [digs] using hd
    have h2 := isDig_iff.1 h1.1
    rw [valA_cons] at hv
    have h3 := valA_ge l (10 * a + (c.toNat - 48))
    unfold parseUintM
    rw [if_pos h2, if_neg (by omega), if_neg (by omega), show a * 10 + (c.toNat - 48) = 10 * a + (c.toNat - 48) by omega, ih _ h1.2 hv, valA_cons]
theorem parse_itoa {n : Int} (h1 : -9223372036854775808 ≤ n) (h2 : n ≤ 9223372036854775807) : parseIntB 64 (itoa n) = .ok n := by
  unfold itoa
  obtain ⟨u, hu⟩ : ∃ u, u = n.natAbs := ⟨_, rfl⟩
  obtain ⟨f1, f2, f3, f4⟩ := dec_facts u u (Nat.le_refl _)
  have hp := parseM_ok (2 ^ 64 - 1) (by decide) (decDigits u) 0 f1 (by rw [f2]; omega)
  rw [f2] at hp
  by_cases hn : n < 0
  · rw [if_pos hn, ← hu]
    have e : parseUintB 64 (decDigits u) = .ok u := by unfold parseUintB; rw [if_neg f3]; exact hp
    unfold parseIntB
    simp only [show (45 : UInt8).toNat = 45 from rfl, or_true, if_true, e]
    rw [if_neg (by simp), if_neg (by omega)]
    congr 1
    omega
  · rw [if_neg hn, show n.toNat = u by omega]
    have e : parseUintB 64 (decDigits u) = .ok u := by unfold parseUintB; rw [if_neg f3]; exact hp
    cases hl : decDigits u with
    | nil => exact absurd hl f3
    | cons c r =>
      have hc : isDig c = true := by rw [hl] at f1; simp [digs] at f1; exact f1.1
      have hc2 := isDig_iff.1 hc
      unfold parseIntB
      rw [hl] at e
      simp only [show ¬ (c.toNat = 43 ∨ c.toNat = 45) by omega, if_false, e]
      rw [if_neg (by omega), if_neg (by omega), if_neg (by omega)]
      congr 1
      omega
/-- strconv's reading, there and back. -/
def numP (l : List UInt8) : Option Int := match parseIntB 64 l with | .ok v => if itoa v = l then some v else none | _ => none
theorem numP_refP (l : List UInt8) (hb : ∀ v, parseIntB 64 l = .ok v → -9223372036854775808 ≤ v ∧ v ≤ 9223372036854775807) : numP l = refP l := by
  rcases hr : refP l with _ | n
  · unfold numP
    rcases hp : parseIntB 64 l with v | _ | _
    · simp only
      split
      · rename_i e
        have := refP_of (hb v hp).1 (hb v hp).2
        rw [e, hr] at this
        cases this
      · rfl
    · rfl
    · rfl
  · obtain ⟨h1, h2, h3⟩ := refP_itoa hr
    unfold numP
    have := parse_itoa h1 h2
    rw [h3] at this
    rw [this]
    simp [h3]
end Go.Proofs.YtpngmbdchceikaaDoor.Pl
