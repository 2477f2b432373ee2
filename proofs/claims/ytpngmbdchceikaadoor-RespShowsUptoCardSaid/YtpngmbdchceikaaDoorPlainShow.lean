/- Plain: replies for people. -/
import Derived.Test.YtpngmbdchceikaaDoorPlainResp3
import Derived.Lib.Join
namespace Go.Proofs.YtpngmbdchceikaaDoor.Pl
open Go.Lib
set_option linter.unusedVariables false
set_option linter.unusedSimpArgs false

def hexs : List UInt8 := [48, 49, 50, 51, 52, 53, 54, 55, 56, 57, 97, 98, 99, 100, 101, 102]
def hexd (n : Nat) : UInt8 := hexs.getD n 0
/-- A byte of a bulk, as people read it. -/
def qB (c : UInt8) : List UInt8 :=
  if c = 34 ∨ c = 92 then [92, c] else if c = 10 then [92, 110] else if c = 13 then [92, 114] else if c = 9 then [92, 116]
  else if c.toNat < 32 ∨ 126 < c.toNat then [92, 120, hexd (c.toNat / 16), hexd (c.toNat % 16)] else [c]
def quoteL (t : List UInt8) : List UInt8 := 34 :: t.flatMap qB ++ [34]
/-- A reply that may be, for people. -/
def showL : Nat → R → List UInt8
  | d, r =>
    if r.k = 1 then r.t else if r.k = 2 then [40, 101, 114, 114, 111, 114, 41, 32] ++ r.t else if r.k = 3 then [40, 105, 110, 116, 101, 103, 101, 114, 41, 32] ++ itoa r.n
    else if r.k = 4 then quoteL r.t else if r.k = 5 then [40, 110, 105, 108, 41] else if r.k = 7 then [40, 110, 111, 110, 101, 41]
    else 91 :: (join (match d with | 0 => [] | d + 1 => r.l.map (showL d)) [44, 32] ++ [93])
theorem show_1 (d : Nat) (t : List UInt8) (n : Int) (l : List R) : showL d (.mk 1 t n l) = t := by rw [showL.eq_def]; simp [R.k, R.t, R.n, R.l]
theorem show_2 (d : Nat) (t : List UInt8) (n : Int) (l : List R) : showL d (.mk 2 t n l) = [40, 101, 114, 114, 111, 114, 41, 32] ++ t := by rw [showL.eq_def]; simp [R.k, R.t, R.n, R.l]
theorem show_3 (d : Nat) (t : List UInt8) (n : Int) (l : List R) : showL d (.mk 3 t n l) = [40, 105, 110, 116, 101, 103, 101, 114, 41, 32] ++ itoa n := by rw [showL.eq_def]; simp [R.k, R.t, R.n, R.l]
theorem show_4 (d : Nat) (t : List UInt8) (n : Int) (l : List R) : showL d (.mk 4 t n l) = quoteL t := by rw [showL.eq_def]; simp [R.k, R.t, R.n, R.l]
theorem show_5 (d : Nat) (t : List UInt8) (n : Int) (l : List R) : showL d (.mk 5 t n l) = [40, 110, 105, 108, 41] := by rw [showL.eq_def]; simp [R.k, R.t, R.n, R.l]
theorem show_7 (d : Nat) (t : List UInt8) (n : Int) (l : List R) : showL d (.mk 7 t n l) = [40, 110, 111, 110, 101, 41] := by rw [showL.eq_def]; simp [R.k, R.t, R.n, R.l]
theorem show_6 (d : Nat) (t : List UInt8) (n : Int) (l : List R) : showL (d + 1) (.mk 6 t n l) = 91 :: (join (l.map (showL d)) [44, 32] ++ [93]) := by rw [showL.eq_def]; simp [R.k, R.t, R.n, R.l]
theorem qB_len (c : UInt8) : (qB c).length ≤ 4 := by
  unfold qB
  repeat' split
  all_goals simp
theorem flatQ_len : ∀ t : List UInt8, (t.flatMap qB).length ≤ 4 * t.length
  | [] => by simp
  | c :: t => by
    have := qB_len c
    have := flatQ_len t
    simp only [List.flatMap_cons, List.length_append, List.length_cons]
    omega
theorem quote_len (t : List UInt8) : (quoteL t).length ≤ 4 * t.length + 2 := by
  have := flatQ_len t
  simp only [quoteL, List.length_append, List.length_cons, List.length_nil]
  omega
theorem join_len (xs : List (List UInt8)) : (join xs [44, 32]).length ≤ (xs.map fun x => x.length + 2).sum := by
  cases xs with
  | nil => simp [join_nil]
  | cons x r =>
    rw [join_cons]
    have : (joinTail [44, 32] r).length = (r.map fun x => x.length + 2).sum := by
      induction r with
      | nil => simp [joinTail]
      | cons y r ih => simp only [joinTail, List.map_cons, List.flatten_cons, List.length_append, List.sum_cons, List.length_cons, List.length_nil] at ih ⊢; omega
    simp only [List.length_append, List.map_cons, List.sum_cons]
    omega
theorem sum_flat {f g : R → List UInt8} : ∀ l : List R, (∀ x ∈ l, (f x).length + 2 ≤ 4 * (g x).length) → (((l.map f).map fun x => x.length + 2).sum) ≤ 4 * (l.flatMap g).length
  | [], _ => by simp
  | x :: l, h => by
    have h1 := h x (by simp)
    have h2 := sum_flat l fun y hy => h y (by simp [hy])
    simp only [List.map_cons, List.sum_cons, List.flatMap_cons, List.length_append]
    omega
/-- What is shown is no longer than four times what is written. -/
theorem show_enc : ∀ (d : Nat) (r : R), mayL d r = true → (showL d r).length + 2 ≤ 4 * (encL d r).length
  | d, r, h => by
    rcases may_cases h with hf | ⟨e, rfl, rfl | ⟨l, rfl, hl⟩⟩
    · rcases flat_cases hf with ⟨t, rfl, -⟩ | ⟨t, rfl, -⟩ | ⟨n, rfl⟩ | ⟨t, rfl⟩ | rfl
      · rw [show_1, encL.eq_def]; simp [R.k, R.t, R.n, R.l, crlf]; omega
      · rw [show_2, encL.eq_def]; simp [R.k, R.t, R.n, R.l, crlf]; omega
      · rw [show_3, encL.eq_def]; simp [R.k, R.t, R.n, R.l, crlf]; omega
      · have := quote_len t
        rw [show_4, encL.eq_def]; simp [R.k, R.t, R.n, R.l, crlf]; omega
      · rw [show_5, encL.eq_def]; simp [R.k, R.t, R.n, R.l, crlf]
    · rw [show_7, encL.eq_def]; simp [R.k, R.t, R.n, R.l, crlf]
    · have h1 := join_len (l.map (showL e))
      have h2 := sum_flat (f := showL e) (g := encL e) l fun x hx => show_enc e x (hl x hx)
      rw [show_6, encL.eq_def]
      simp only [R.k, R.t, R.n, R.l, crlf, show ¬ ((6 : Int) = 1) by decide, show ¬ ((6 : Int) = 2) by decide, show ¬ ((6 : Int) = 3) by decide, show ¬ ((6 : Int) = 4) by decide, show ¬ ((6 : Int) = 5) by decide, show ¬ ((6 : Int) = 7) by decide, if_false, List.length_cons, List.length_append, List.length_nil]
      omega
theorem mayL_s (d : Nat) (r : R) : mayL (d + 1) r = (flatOk r.k r.t r.n r.l.isEmpty || (r.k == 7 && r.t.isEmpty && r.n == 0 && r.l.isEmpty) || (r.k == 6 && r.t.isEmpty && r.n == 0 && r.l.all (mayL d))) := rfl
theorem may_up : ∀ (d : Nat) (r : R), mayL d r = true → mayL (d + 1) r = true
  | d, r, h => by
    rcases may_cases h with hf | ⟨e, rfl, rfl | ⟨l, rfl, hl⟩⟩
    · exact flat_may _ hf
    · rfl
    · have h2 : ∀ x ∈ l, mayL (e + 1) x = true := fun x hx => may_up e x (hl x hx)
      rw [mayL_s]
      have h3 : l.all (mayL (e + 1)) = true := List.all_eq_true.2 h2
      simp only [R.k, R.t, R.n, R.l, h3]
      rfl
theorem may_to (d : Nat) (r : R) (h : mayL d r = true) : ∀ k, mayL (d + k) r = true
  | 0 => h
  | k + 1 => may_up (d + k) r (may_to d r h k)
theorem joinTail_snoc (sep x : List UInt8) (r : List (List UInt8)) : joinTail sep (r ++ [x]) = joinTail sep r ++ sep ++ x := by simp [joinTail, List.append_assoc]
theorem join_snoc (xs : List (List UInt8)) (x : List UInt8) : join (xs ++ [x]) [44, 32] = join xs [44, 32] ++ (if xs.isEmpty then [] else [44, 32]) ++ x := by
  cases xs with
  | nil => simp [join_one, join_nil]
  | cons y r => rw [List.cons_append, join_cons, join_cons, joinTail_snoc]; simp [List.append_assoc]
end Go.Proofs.YtpngmbdchceikaaDoor.Pl
