/- Plain: replies, their bytes, what bytes begin with. No program is in sight. -/
import Derived.Test.YtpngmbdchceikaaDoorPlainParse
namespace Go.Proofs.YtpngmbdchceikaaDoor.Pl
open Go.Lib
set_option linter.unusedVariables false

/-- A reply: its kind, its text, its number, its list. -/
inductive R where
  | mk (k : Int) (t : List UInt8) (n : Int) (l : List R)
namespace R
def k : R → Int | mk k _ _ _ => k
def t : R → List UInt8 | mk _ t _ _ => t
def n : R → Int | mk _ _ n _ => n
def l : R → List R | mk _ _ _ l => l
theorem eta (r : R) : mk r.k r.t r.n r.l = r := by cases r; rfl
end R
def noEnd (t : List UInt8) : Bool := t.all fun c => c != 13 && c != 10
/-- May a reply that is no array be? -/
def flatOk (k : Int) (t : List UInt8) (n : Int) (e : Bool) : Bool :=
  ((k == 1 || k == 2) && noEnd t && n == 0 && e) || (k == 3 && t.isEmpty && e) || (k == 4 && n == 0 && e) || (k == 5 && t.isEmpty && n == 0 && e)
/-- May a reply be, with so many arrays left? -/
def mayL : Nat → R → Bool
  | 0, r => flatOk r.k r.t r.n r.l.isEmpty
  | d + 1, r => flatOk r.k r.t r.n r.l.isEmpty || (r.k == 7 && r.t.isEmpty && r.n == 0 && r.l.isEmpty) || (r.k == 6 && r.t.isEmpty && r.n == 0 && r.l.all (mayL d))
def crlf : List UInt8 := [13, 10]
/-- The bytes of a reply that may be. -/
def encL : Nat → R → List UInt8
  | d, r =>
    if r.k = 1 then 43 :: (r.t ++ crlf) else if r.k = 2 then 45 :: (r.t ++ crlf) else if r.k = 3 then 58 :: (itoa r.n ++ crlf)
    else if r.k = 4 then 36 :: (itoa r.t.length ++ crlf ++ r.t ++ crlf) else if r.k = 5 then [36, 45, 49, 13, 10] else if r.k = 7 then [42, 45, 49, 13, 10]
    else 42 :: (itoa r.l.length ++ crlf ++ match d with | 0 => [] | d + 1 => r.l.flatMap (encL d))

/-! ### Lines -/
/-- How a line stands: a byte that may not be; no end; the first half of the end, at a place; its end, at a place. -/
inductive Ln | bad | cut | half (i : Nat) | full (i : Nat)
def Ln.up : Ln → Ln | bad => bad | cut => cut | half i => half (i + 1) | full i => full (i + 1)
def lineS : List UInt8 → Ln
  | [] => .cut
  | c :: l => if c = 10 then .bad else if c = 13 then (match l with | [] => .half 0 | x :: _ => if x = 10 then .full 0 else .bad) else (lineS l).up
theorem lineS_cons (c : UInt8) (l : List UInt8) : lineS (c :: l) = if c = 10 then .bad else if c = 13 then (match l with | [] => .half 0 | x :: _ => if x = 10 then .full 0 else .bad) else (lineS l).up := by cases l <;> simp only [lineS]
theorem lineS_skip {c : UInt8} {l : List UInt8} (h : c ≠ 13) (h' : c ≠ 10) : lineS (c :: l) = (lineS l).up := by rw [lineS_cons, if_neg h', if_neg h]
theorem lineS_text {t : List UInt8} (h : noEnd t = true) (m : List UInt8) : lineS (t ++ 13 :: 10 :: m) = .full t.length := by
  induction t with
  | nil => simp [lineS]
  | cons c t ih =>
    simp only [noEnd, List.all_cons, Bool.and_eq_true, bne_iff_ne] at h
    rw [List.cons_append, lineS_skip h.1.1 h.1.2, ih (by simpa [noEnd] using h.2)]
    rfl
theorem lineS_full {l : List UInt8} {i : Nat} (h : lineS l = .full i) : ∃ m, l = l.take i ++ 13 :: 10 :: m ∧ noEnd (l.take i) = true ∧ i + 2 ≤ l.length := by
  induction l generalizing i with
  | nil => cases h
  | cons c l ih =>
    rw [lineS_cons] at h
    split at h
    · cases h
    · rename_i h10
      split at h
      · rename_i h13
        cases l with
        | nil => cases h
        | cons x l =>
          simp only at h
          split at h
          · rename_i hx
            cases h
            exact ⟨l, by rw [h13, hx]; rfl, rfl, by simp⟩
          · cases h
      · rename_i h13
        cases hl : lineS l with
        | bad => rw [hl] at h; cases h
        | cut => rw [hl] at h; cases h
        | half j => rw [hl] at h; cases h
        | full j =>
          rw [hl] at h
          cases h
          obtain ⟨m, e1, e2, e3⟩ := ih hl
          refine ⟨m, by rw [List.take_succ_cons, List.cons_append, ← e1], ?_, by simp; omega⟩
          simp only [noEnd, List.take_succ_cons, List.all_cons, Bool.and_eq_true, bne_iff_ne]
          exact ⟨⟨h13, h10⟩, by simpa [noEnd] using e2⟩
theorem lineS_cut {l : List UInt8} (h : lineS l = .cut) : noEnd l = true := by
  induction l with
  | nil => rfl
  | cons c l ih =>
    rw [lineS_cons] at h
    split at h
    · cases h
    · rename_i h10
      split at h
      · cases l with
        | nil => cases h
        | cons x l => simp only at h; split at h <;> cases h
      · rename_i h13
        have : lineS l = .cut := by cases hl : lineS l <;> rw [hl] at h <;> first | rfl | cases h
        simp only [noEnd, List.all_cons, Bool.and_eq_true, bne_iff_ne]
        exact ⟨⟨h13, h10⟩, by simpa [noEnd] using ih this⟩
theorem lineS_half {l : List UInt8} {i : Nat} (h : lineS l = .half i) : l = l.take i ++ [13] ∧ noEnd (l.take i) = true ∧ i + 1 = l.length := by
  induction l generalizing i with
  | nil => cases h
  | cons c l ih =>
    rw [lineS_cons] at h
    split at h
    · cases h
    · rename_i h10
      split at h
      · rename_i h13
        cases l with
        | nil => cases h; exact ⟨by rw [h13]; rfl, rfl, rfl⟩
        | cons x l => simp only at h; split at h <;> cases h
      · rename_i h13
        cases hl : lineS l with
        | bad => rw [hl] at h; cases h
        | cut => rw [hl] at h; cases h
        | full j => rw [hl] at h; cases h
        | half j =>
          rw [hl] at h
          cases h
          obtain ⟨e1, e2, e3⟩ := ih hl
          refine ⟨by rw [List.take_succ_cons, List.cons_append, ← e1], ?_, by simp; omega⟩
          simp only [noEnd, List.take_succ_cons, List.all_cons, Bool.and_eq_true, bne_iff_ne]
          exact ⟨⟨h13, h10⟩, by simpa [noEnd] using e2⟩
theorem lineS_of_full {t m : List UInt8} (h : noEnd t = true) : lineS (t ++ 13 :: 10 :: m) = .full t.length := lineS_text h m
theorem lineS_ext_full {l : List UInt8} {i : Nat} (h : lineS l = .full i) (m : List UInt8) : lineS (l ++ m) = .full i := by
  obtain ⟨q, e, hn, hl⟩ := lineS_full h
  have : l ++ m = l.take i ++ 13 :: 10 :: (q ++ m) := by
    conv => lhs; rw [e]
    simp
  rw [this, lineS_text hn, List.length_take]
  congr 1; omega
theorem lineS_ext_bad {l : List UInt8} (h : lineS l = .bad) (m : List UInt8) : lineS (l ++ m) = .bad := by
  induction l with
  | nil => cases h
  | cons c l ih =>
    rw [List.cons_append, lineS_cons]
    rw [lineS_cons] at h
    by_cases h10 : c = 10
    · rw [if_pos h10]
    · rw [if_neg h10] at h ⊢
      by_cases h13 : c = 13
      · rw [if_pos h13] at h ⊢
        cases l with
        | nil => cases h
        | cons x l =>
          simp only [List.cons_append] at h ⊢
          exact h
      · rw [if_neg h13] at h ⊢
        have : lineS l = .bad := by cases hl : lineS l <;> rw [hl] at h <;> first | rfl | cases h
        rw [ih this]; rfl
theorem lineS_noEnd {t : List UInt8} (h : noEnd t = true) (m : List UInt8) : lineS (t ++ m) = (match lineS m with | .bad => .bad | .cut => .cut | .half i => .half (t.length + i) | .full i => .full (t.length + i)) := by
  induction t with
  | nil => simp; cases lineS m <;> rfl
  | cons c t ih =>
    simp only [noEnd, List.all_cons, Bool.and_eq_true, bne_iff_ne] at h
    rw [List.cons_append, lineS_skip h.1.1 h.1.2, ih (by simpa [noEnd] using h.2)]
    cases lineS m <;> simp [Ln.up] <;> omega
/-- Behind the first half of an end: the end, or no line. -/
theorem lineS_ext_half {l : List UInt8} {i : Nat} (h : lineS l = .half i) (m : List UInt8) (hm : m ≠ []) : lineS (l ++ m) = .bad ∨ lineS (l ++ m) = .full i := by
  obtain ⟨e, hn, hl⟩ := lineS_half h
  cases m with
  | nil => exact absurd rfl hm
  | cons x m =>
    have e2 : l ++ x :: m = l.take i ++ 13 :: x :: m := by
      conv => lhs; rw [e]
      simp
    have hlen : (l.take i).length = i := by rw [List.length_take]; omega
    rw [e2, lineS_noEnd hn, lineS_cons]
    by_cases hx : x = 10
    · right; simp [hx, hlen]
    · left; simp [hx]
/-- Behind a line without an end. -/
theorem lineS_ext_cut {l : List UInt8} (h : lineS l = .cut) (m : List UInt8) : lineS (l ++ m) = .bad ∨ lineS (l ++ m) = .cut ∨ (∃ i, lineS (l ++ m) = .half i ∧ (l ++ m).take i = l ++ m.take (i - l.length) ∧ l.length ≤ i) ∨ ∃ i, lineS (l ++ m) = .full i ∧ (l ++ m).take i = l ++ m.take (i - l.length) ∧ l.length ≤ i := by
  rw [lineS_noEnd (lineS_cut h)]
  cases lineS m with
  | bad => exact .inl rfl
  | cut => exact .inr (.inl rfl)
  | half i => exact .inr (.inr (.inl ⟨_, rfl, by rw [List.take_append, List.take_of_length_le (by omega)], by omega⟩))
  | full i => exact .inr (.inr (.inr ⟨_, rfl, by rw [List.take_append, List.take_of_length_le (by omega)], by omega⟩))

/-! ### Numbers -/
inductive Nm | bad | more | ok (n : Int) (k : Nat)
/-- The number of a line, from lo to hi, and the place behind the line. -/
def numS (lo hi : Int) (l : List UInt8) : Nm :=
  match lineS l with
  | .bad => .bad
  | .full i => match refP (l.take i) with | none => .bad | some n => if n < lo ∨ hi < n then .bad else .ok n (i + 2)
  | .half i => match refP (l.take i) with | none => .bad | some n => if n < lo ∨ hi < n then .bad else .more
  | .cut => if l = [] ∨ l = [45] then .more else match refP l with | none => .bad | some n => if n < lo ∨ hi < n then .bad else .more
theorem numS_ok {lo hi : Int} {l : List UInt8} {n : Int} {k : Nat} (h : numS lo hi l = .ok n k) : ∃ m, l = itoa n ++ 13 :: 10 :: m ∧ k = (itoa n).length + 2 ∧ lo ≤ n ∧ n ≤ hi ∧ -9223372036854775808 ≤ n ∧ n ≤ 9223372036854775807 ∧ k ≤ l.length := by
  unfold numS at h
  cases hl : lineS l with
  | bad => rw [hl] at h; cases h
  | cut =>
    rw [hl] at h
    simp only at h
    split at h
    · cases h
    · cases hp : refP l with
      | none => rw [hp] at h; cases h
      | some x => rw [hp] at h; simp only at h; split at h <;> cases h
  | half i =>
    rw [hl] at h
    simp only at h
    cases hp : refP (l.take i) with
    | none => rw [hp] at h; cases h
    | some x => rw [hp] at h; simp only at h; split at h <;> cases h
  | full i =>
    rw [hl] at h
    simp only at h
    cases hp : refP (l.take i) with
    | none => rw [hp] at h; cases h
    | some x =>
      rw [hp] at h
      simp only at h
      split at h
      · cases h
      · rename_i hr
        cases h
        obtain ⟨m, e1, e2, e3⟩ := lineS_full hl
        obtain ⟨p1, p2, p3⟩ := refP_itoa hp
        have hlen : (itoa n).length = i := by rw [p3, List.length_take]; omega
        exact ⟨m, by rw [p3]; exact e1, by omega, by omega, by omega, p1, p2, e3⟩
theorem digits_noEnd {l : List UInt8} (h : digs l = true) : noEnd l = true := by
  unfold digs at h
  unfold noEnd
  rw [List.all_eq_true] at h ⊢
  intro c hc
  have := isDig_iff.1 (h c hc)
  simp only [Bool.and_eq_true, bne_iff_ne]
  refine ⟨fun e => ?_, fun e => ?_⟩ <;> rw [e] at this <;> revert this <;> decide
theorem itoa_noEnd (n : Int) : noEnd (itoa n) = true := by
  unfold itoa
  split
  · have := digits_noEnd (dec_facts n.natAbs n.natAbs (Nat.le_refl _)).1
    simp only [noEnd, List.all_cons, Bool.and_eq_true] at this ⊢
    exact ⟨by decide, this⟩
  · exact digits_noEnd (dec_facts _ _ (Nat.le_refl _)).1
theorem numS_itoa {lo hi n : Int} (h1 : -9223372036854775808 ≤ n) (h2 : n ≤ 9223372036854775807) (h3 : lo ≤ n) (h4 : n ≤ hi) (m : List UInt8) : numS lo hi (itoa n ++ 13 :: 10 :: m) = .ok n ((itoa n).length + 2) := by
  unfold numS
  rw [lineS_text (itoa_noEnd n)]
  simp only
  rw [List.take_left, refP_of h1 h2]
  simp only
  rw [if_neg (by omega)]
theorem numS_ext_ok {lo hi : Int} {l : List UInt8} {n : Int} {k : Nat} (h : numS lo hi l = .ok n k) (m : List UInt8) : numS lo hi (l ++ m) = .ok n k := by
  obtain ⟨q, e1, e2, e3, e4, e5, e6, e7⟩ := numS_ok h
  rw [e1, List.append_assoc, List.cons_append, List.cons_append, numS_itoa e5 e6 e3 e4, e2]

/-! ### What a number's text goes on to -/
theorem valA_append (a : Nat) (s t : List UInt8) : valA a (s ++ t) = valA (valA a s) t := by simp [valA, List.foldl_append]
theorem valA_mono (l : List UInt8) : ∀ a b : Nat, a ≤ b → valA a l ≤ valA b l := by
  induction l with
  | nil => intro a b h; exact h
  | cons c l ih => intro a b h; rw [valA_cons, valA_cons]; exact ih _ _ (by omega)
theorem below_append {t u : List UInt8} (h0 : t ≠ []) (h1 : t ≠ [45]) : below (t ++ u) = below t := by
  unfold below
  rw [head_app h0]
  cases t with
  | nil => exact absurd rfl h0
  | cons a t =>
    cases t with
    | cons b t => simp
    | nil =>
      have : a ≠ 45 := fun e => h1 (by rw [e])
      simp [this]
theorem mag_append {t u : List UInt8} (h0 : t ≠ []) (h1 : t ≠ [45]) : mag (t ++ u) = mag t ++ u := by
  unfold mag
  rw [below_append h0 h1]
  split
  · cases t with
    | nil => exact absurd rfl h0
    | cons a t => rfl
  · rfl
theorem mag_ne {t : List UInt8} (h0 : t ≠ []) : mag t ≠ [] := by
  unfold mag
  split
  · rename_i hb
    intro e
    unfold below at hb
    simp only [Bool.and_eq_true, decide_eq_true_eq] at hb
    cases t with
    | nil => exact h0 rfl
    | cons a t => simp at e; rw [e] at hb; simp at hb
  · exact h0
theorem bad_append {t u : List UInt8} (h0 : t ≠ []) (h1 : t ≠ [45]) (h : bad t = true) : bad (t ++ u) = true := by
  unfold bad at h ⊢
  rw [below_append h0 h1, mag_append h0 h1, head_app (mag_ne h0), List.length_append]
  simp only [Bool.or_eq_true, decide_eq_true_eq, Bool.and_eq_true] at h ⊢
  rcases h with (h | h) | ⟨h, h | h⟩
  · exact absurd (List.eq_nil_of_length_eq_zero h) (mag_ne h0)
  · exact .inl (.inr (by omega))
  · rename_i h2; exact .inr ⟨h2, .inl (by omega)⟩
  · rename_i h2; exact .inr ⟨h2, .inr h⟩
theorem refP_more {t : List UInt8} (u : List UInt8) (h0 : t ≠ []) (h1 : t ≠ [45]) (h : refP t = none) : refP (t ++ u) = none := by
  unfold refP at h ⊢
  rw [below_append h0 h1, mag_append h0 h1]
  by_cases hc : bad t = true ∨ digs (mag t) = false
  · rw [if_pos]
    rcases hc with hb | hd
    · exact .inl (bad_append h0 h1 hb)
    · right
      rw [show digs (mag t ++ u) = (digs (mag t) && digs u) by simp [digs], hd]; rfl
  · rw [if_neg hc] at h
    by_cases hc2 : bad (t ++ u) = true ∨ digs (mag t ++ u) = false
    · rw [if_pos hc2]
    · rw [if_neg hc2]
      have hv : valA 0 (mag t) ≤ valA 0 (mag t ++ u) := by rw [valA_append]; exact valA_ge u _
      split at h
      · rename_i hb
        rw [if_pos hb]
        split at h
        · rw [if_pos (by omega)]
        · cases h
      · rename_i hb
        rw [if_neg hb]
        split at h
        · rw [if_pos (by omega)]
        · cases h
theorem refP_cons {t u : List UInt8} {n m : Int} (h0 : t ≠ []) (h1 : t ≠ [45]) (h : refP t = some n) (h' : refP (t ++ u) = some m) : (n < -1 → m < -1) ∧ (2147483647 < n → 2147483647 < m) := by
  unfold refP at h h'
  rw [below_append h0 h1, mag_append h0 h1] at h'
  have hv : valA 0 (mag t) ≤ valA 0 (mag t ++ u) := by rw [valA_append]; exact valA_ge u _
  split at h
  · cases h
  · split at h'
    · cases h'
    · split at h
      · rename_i hb
        rw [if_pos hb] at h'
        split at h
        · cases h
        · split at h'
          · cases h'
          · simp only [Option.some.injEq] at h h'
            omega
      · rename_i hb
        rw [if_neg hb] at h'
        split at h
        · cases h
        · split at h'
          · cases h'
          · simp only [Option.some.injEq] at h h'
            omega
/-- Bounds of which a number out of them never comes back. -/
def Keeps (lo hi : Int) : Prop := (lo = -1 ∧ hi = 2147483647) ∨ (lo = -9223372036854775808 ∧ hi = 9223372036854775807)
theorem numS_ext_bad {lo hi : Int} (hk : Keeps lo hi) {l : List UInt8} (h : numS lo hi l = .bad) (m : List UInt8) : numS lo hi (l ++ m) = .bad := by
  by_cases hm : m = []
  · rw [hm, List.append_nil]; exact h
  unfold numS at h
  cases hl : lineS l with
  | bad => unfold numS; rw [lineS_ext_bad hl]
  | full i =>
    have e := lineS_ext_full hl m
    obtain ⟨_, _, _, hlen⟩ := lineS_full hl
    rw [hl] at h
    unfold numS
    rw [e]
    simp only at h ⊢
    rw [List.take_append_of_le_length (by omega)]
    cases hp : refP (l.take i) with
    | none => rfl
    | some x =>
      rw [hp] at h
      simp only at h ⊢
      split at h
      · rename_i hr; rw [if_pos hr]
      · cases h
  | half i =>
    obtain ⟨_, _, hlen⟩ := lineS_half hl
    rw [hl] at h
    simp only at h
    unfold numS
    rcases lineS_ext_half hl m hm with e | e
    · rw [e]
    · rw [e]
      simp only
      rw [List.take_append_of_le_length (by omega)]
      cases hp : refP (l.take i) with
      | none => rfl
      | some x =>
        rw [hp] at h
        simp only at h ⊢
        split at h
        · rename_i hr; rw [if_pos hr]
        · cases h
  | cut =>
    rw [hl] at h
    simp only at h
    split at h
    · cases h
    · rename_i hne
      have h0 : l ≠ [] := fun e => hne (.inl e)
      have h1 : l ≠ [45] := fun e => hne (.inr e)
      have key : ∀ u, (match refP (l ++ u) with | none => Nm.bad | some n => if n < lo ∨ hi < n then .bad else .more) = .bad ∧ (∀ x, refP (l ++ u) = some x → x < lo ∨ hi < x) := by
        intro u
        cases hp : refP l with
        | none => rw [refP_more u h0 h1 hp]; exact ⟨rfl, fun x hx => by cases hx⟩
        | some x =>
          rw [hp] at h
          simp only at h
          split at h
          · rename_i hr
            cases hp2 : refP (l ++ u) with
            | none => exact ⟨rfl, fun x hx => by cases hx⟩
            | some y =>
              have := refP_cons h0 h1 hp hp2
              have b := refP_itoa hp
              have hy : y < lo ∨ hi < y := by
                rcases hk with ⟨rfl, rfl⟩ | ⟨rfl, rfl⟩
                · omega
                · omega
              simp only
              exact ⟨by rw [if_pos hy], fun z hz => by cases hz; exact hy⟩
          · cases h
      unfold numS
      rcases lineS_ext_cut hl m with e | e | ⟨i, e, et, _⟩ | ⟨i, e, et, _⟩
      · rw [e]
      · rw [e]
        simp only
        rw [if_neg (by
          intro hh
          rcases hh with hh | hh
          · exact h0 (List.append_eq_nil_iff.1 hh).1
          · cases l with
            | nil => exact h0 rfl
            | cons a l =>
              simp at hh
              exact hm hh.2.2)]
        exact (key m).1
      · rw [e]
        simp only
        rw [et]
        cases hp : refP (l ++ m.take (i - l.length)) with
        | none => rfl
        | some y => simp only; rw [if_pos ((key _).2 y hp)]
      · rw [e]
        simp only
        rw [et]
        cases hp : refP (l ++ m.take (i - l.length)) with
        | none => rfl
        | some y => simp only; rw [if_pos ((key _).2 y hp)]

/-! ### Replies -/
inductive Rd | bad | more | ok (r : R) (k : Nat)
def rdBulk (l : List UInt8) : Rd :=
  match numS (-1) 2147483647 l with
  | .bad => .bad
  | .more => .more
  | .ok n k => if n < 0 then .ok (.mk 5 [] 0 []) k else
    let m := l.drop k
    if (n.toNat < m.length ∧ m.getD n.toNat 0 ≠ 13) ∨ (n.toNat + 1 < m.length ∧ m.getD (n.toNat + 1) 0 ≠ 10) then .bad
    else if m.length < n.toNat + 2 then .more else .ok (.mk 4 (m.take n.toNat) 0 []) (k + n.toNat + 2)
def rdN (f : List UInt8 → Rd) : Nat → List UInt8 → List R → Nat → Rd
  | 0, _, acc, u => .ok (.mk 6 [] 0 acc) u
  | n + 1, l, acc, u => match f l with | .bad => .bad | .more => .more | .ok x k => rdN f n (l.drop k) (acc ++ [x]) (u + k)
def rdLine (k : Int) (l : List UInt8) : Rd := match lineS l with | .bad => .bad | .cut => .more | .half _ => .more | .full i => .ok (.mk k (l.take i) 0 []) (i + 3)
def rdArr (f : Option (List UInt8 → Rd)) (l : List UInt8) : Rd :=
  match f with
  | none => .bad
  | some f => match numS (-1) 2147483647 l with | .bad => .bad | .more => .more | .ok n k => if n < 0 then .ok (.mk 7 [] 0 []) (k + 1) else rdN f n.toNat (l.drop k) [] (k + 1)
def Rd.up : Rd → Rd | bad => bad | more => more | ok r k => ok r (k + 1)
def rd : Nat → List UInt8 → Rd
  | _, [] => .more
  | d, c :: l => if c = 43 then rdLine 1 l else if c = 45 then rdLine 2 l
    else if c = 58 then (match numS (-9223372036854775808) 9223372036854775807 l with | .bad => .bad | .more => .more | .ok n k => .ok (.mk 3 [] n []) (k + 1))
    else if c = 36 then (rdBulk l).up
    else if c = 42 then rdArr (match d with | 0 => none | d + 1 => some (rd d)) l else .bad
def subR : Nat → Option (List UInt8 → Rd)
  | 0 => none
  | d + 1 => some (rd d)
theorem rd_nil (d : Nat) : rd d [] = .more := by cases d <;> simp only [rd]
theorem rd_cons (d : Nat) (c : UInt8) (l : List UInt8) : rd d (c :: l) = if c = 43 then rdLine 1 l else if c = 45 then rdLine 2 l
    else if c = 58 then (match numS (-9223372036854775808) 9223372036854775807 l with | .bad => .bad | .more => .more | .ok n k => .ok (.mk 3 [] n []) (k + 1))
    else if c = 36 then (rdBulk l).up
    else if c = 42 then rdArr (subR d) l else .bad := by cases d <;> simp only [rd, subR]
end Go.Proofs.YtpngmbdchceikaaDoor.Pl
