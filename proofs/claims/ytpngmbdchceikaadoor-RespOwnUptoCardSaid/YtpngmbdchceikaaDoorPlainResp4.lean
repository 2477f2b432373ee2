/- Plain: lines from any place on; replies that come piece by piece. -/
import Derived.Test.YtpngmbdchceikaaDoorPlainResp3
namespace Go.Proofs.YtpngmbdchceikaaDoor.Pl
open Go.Lib
set_option linter.unusedVariables false
set_option linter.unusedSimpArgs false

/-- How a line stands, told from so many bytes ahead. -/
def Ln.sh (k : Nat) : Ln → Ln | bad => bad | cut => cut | half i => half (k + i) | full i => full (k + i)
theorem Ln.sh_zero (x : Ln) : x.sh 0 = x := by cases x <;> simp [Ln.sh]
theorem Ln.sh_up (k : Nat) (x : Ln) : x.up.sh k = x.sh (k + 1) := by cases x <;> simp [Ln.sh, Ln.up] <;> omega

/-- The replies that bytes hold whole, and what is left of the bytes; none, if they are no replies'. -/
def fedN : Nat → List UInt8 → List R × Option (List UInt8)
  | 0, l => ([], some l)
  | n + 1, l => match rd 8 l with
    | .bad => ([], none)
    | .more => ([], some l)
    | .ok r k => (r :: (fedN n (l.drop k)).1, (fedN n (l.drop k)).2)
def fed (l : List UInt8) : List R × Option (List UInt8) := fedN (l.length + 1) l
theorem fedN_enough : ∀ (n m : Nat) (l : List UInt8), l.length < n → l.length < m → fedN n l = fedN m l
  | 0, _, _, h, _ => by omega
  | _, 0, _, _, h => by omega
  | n + 1, m + 1, l, h1, h2 => by
    rw [fedN, fedN]
    cases hx : rd 8 l with
    | bad => rfl
    | more => rfl
    | ok r k =>
      obtain ⟨⟨a, b⟩, _⟩ := (rd_ext 8).1 l r k hx
      have : (l.drop k).length = l.length - k := List.length_drop
      simp only
      rw [fedN_enough n m (l.drop k) (by omega) (by omega)]
theorem fed_bad {l : List UInt8} (h : rd 8 l = .bad) : fed l = ([], none) := by rw [fed, fedN, h]
theorem fed_more {l : List UInt8} (h : rd 8 l = .more) : fed l = ([], some l) := by rw [fed, fedN, h]
theorem fed_ok {l : List UInt8} {r : R} {k : Nat} (h : rd 8 l = .ok r k) : fed l = (r :: (fed (l.drop k)).1, (fed (l.drop k)).2) := by
  obtain ⟨⟨a, b⟩, _⟩ := (rd_ext 8).1 l r k h
  have : (l.drop k).length = l.length - k := List.length_drop
  rw [fed, fedN, h]
  simp only
  rw [fedN_enough l.length ((l.drop k).length + 1) (l.drop k) (by omega) (by omega)]
  rfl
/-- What is left is a reply's beginning, no longer than the bytes were. -/
theorem fed_left : ∀ (n : Nat) (l : List UInt8), l.length < n → ∀ u, (fed l).2 = some u → rd 8 u = .more ∧ u.length ≤ l.length
  | 0, _, h => by omega
  | n + 1, l, h => by
    intro u hu
    cases hx : rd 8 l with
    | bad => rw [fed_bad hx] at hu; cases hu
    | more => rw [fed_more hx] at hu; cases hu; exact ⟨hx, Nat.le_refl _⟩
    | ok r k =>
      obtain ⟨⟨a, b⟩, _⟩ := (rd_ext 8).1 l r k hx
      have hl : (l.drop k).length = l.length - k := List.length_drop
      rw [fed_ok hx] at hu
      obtain ⟨h1, h2⟩ := fed_left n (l.drop k) (by omega) u hu
      exact ⟨h1, by omega⟩
theorem fed_count : ∀ (n : Nat) (l : List UInt8), l.length < n → (fed l).1.length ≤ l.length
  | 0, _, h => by omega
  | n + 1, l, h => by
    cases hx : rd 8 l with
    | bad => rw [fed_bad hx]; simp
    | more => rw [fed_more hx]; simp
    | ok r k =>
      obtain ⟨⟨a, b⟩, _⟩ := (rd_ext 8).1 l r k hx
      have hl : (l.drop k).length = l.length - k := List.length_drop
      have := fed_count n (l.drop k) (by omega)
      rw [fed_ok hx, List.length_cons]
      omega
/-- Bytes that come in two pieces. -/
theorem fed_two : ∀ (n : Nat) (l m : List UInt8), l.length < n → fed (l ++ m) = (match (fed l).2 with | none => ((fed l).1, none) | some u => ((fed l).1 ++ (fed (u ++ m)).1, (fed (u ++ m)).2))
  | 0, _, _, h => by omega
  | n + 1, l, m, h => by
    cases hx : rd 8 l with
    | bad => rw [fed_bad hx, fed_bad ((rd_ext 8).2 l hx m)]
    | more => rw [fed_more hx]; simp
    | ok r k =>
      obtain ⟨⟨a, b⟩, hm⟩ := (rd_ext 8).1 l r k hx
      have hl : (l.drop k).length = l.length - k := List.length_drop
      have hd : (l ++ m).drop k = l.drop k ++ m := List.drop_append_of_le_length b
      rw [fed_ok hx, fed_ok (hm m), hd, fed_two n (l.drop k) m (by omega)]
      cases (fed (l.drop k)).2 <;> simp
/-- A decoder's state (none: it has failed) behind a piece, and what it tells. -/
def step (st : Option (List UInt8)) (s : List UInt8) : List R × Option (List UInt8) :=
  match st with | none => ([], none) | some h => fed (h ++ s)
theorem step_two (st : Option (List UInt8)) (s t : List UInt8) : step st (s ++ t) = ((step st s).1 ++ (step (step st s).2 t).1, (step (step st s).2 t).2) := by
  cases st with
  | none => simp [step]
  | some h =>
    simp only [step]
    rw [← List.append_assoc, fed_two _ (h ++ s) t (Nat.lt_succ_self _)]
    cases (fed (h ++ s)).2 <;> simp
end Go.Proofs.YtpngmbdchceikaaDoor.Pl
