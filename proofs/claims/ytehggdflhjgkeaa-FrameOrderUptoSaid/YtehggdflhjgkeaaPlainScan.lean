/- Plain laws on scanning groups. No program is in sight. -/
import Derived.Test.YtehggdflhjgkeaaPlainFrame
namespace Go.Proofs.Ytehggdflhjgkeaa.Pl

abbrev Grp := Nat × List UInt8
/-- The last number. -/
def lastN : List Grp → Nat
  | [] => 0
  | [g] => g.1
  | _ :: l => lastN l
theorem lastN_snoc (l : List Grp) (g : Grp) : lastN (l ++ [g]) = g.1 := by
  induction l with
  | nil => rfl
  | cons a l ih =>
    rcases l with _ | ⟨b, l⟩
    · rfl
    · exact ih
theorem lastN_lt {l : List Grp} (h0 : l ≠ []) (h : ∀ g ∈ l, g.1 ≠ 0 ∧ g.1 < 18446744073709551616) : lastN l < 18446744073709551616 := by
  rw [← List.dropLast_concat_getLast h0, lastN_snoc]
  exact (h _ (List.getLast_mem h0)).2
structure Res where
  gs : List Grp
  pos : Nat
  why : Nat
def scanGo : Nat → List UInt8 → List Grp → Nat → Res
  | 0, _, acc, k => ⟨acc, k, 0⟩
  | f + 1, s, acc, k =>
    if s.length ≤ k then ⟨acc, k, 0⟩
    else if (dec (s.drop k)).err ≠ 0 then ⟨acc, k, (dec (s.drop k)).err⟩
    else if acc ≠ [] ∧ (dec (s.drop k)).num ≠ lastN acc + 1 then ⟨acc, k, 253⟩
    else scanGo f s (acc ++ [((dec (s.drop k)).num, (dec (s.drop k)).body)]) (k + (dec (s.drop k)).used)
def scan (s : List UInt8) : Res := scanGo (s.length + 1) s [] 0
/-- The scan stands at place k with these groups. -/
structure Scanning (s : List UInt8) (acc : List Grp) (k : Nat) : Prop where
  fits : k ≤ s.length
  many : 25 * acc.length ≤ k
  nums : ∀ g ∈ acc, g.1 ≠ 0 ∧ g.1 < 18446744073709551616
  goes : ∃ f, s.length - k < f ∧ scanGo f s acc k = scan s

theorem dec_ok {s : List UInt8} (h : (dec s).err = 0) : (dec s).num ≠ 0 ∧ (dec s).num < 18446744073709551616 ∧ (dec s).used = 25 + (dec s).body.length ∧ 25 + (dec s).body.length ≤ s.length := by
  unfold dec at h ⊢
  by_cases c1 : s.length < 20
  · rw [if_pos c1] at h; cases h
  rw [if_neg c1] at h ⊢
  by_cases c2 : headSum s = false
  · rw [if_pos c2] at h; cases h
  rw [if_neg c2] at h ⊢
  by_cases c3 : numOf s = 0 ∨ maxG < sizeOf s
  · rw [if_pos c3] at h; cases h
  rw [if_neg c3] at h ⊢
  by_cases c4 : s.length < 25 + sizeOf s
  · rw [if_pos c4] at h; cases h
  rw [if_neg c4] at h ⊢
  by_cases c5 : bodySum s = false ∨ s.getD (24 + sizeOf s) 0 ≠ 10
  · rw [if_pos c5] at h; cases h
  rw [if_neg c5]
  have hl : (bodyOf s).length = sizeOf s := by unfold bodyOf; rw [List.length_take, List.length_drop]; omega
  refine ⟨fun e => c3 (.inl e), num_lt8 ?_, ?_, ?_⟩
  · rw [List.length_take]; omega
  · show 25 + sizeOf s = 25 + (bodyOf s).length; rw [hl]
  · show 25 + (bodyOf s).length ≤ s.length; rw [hl]; omega
theorem dec_err_lt (s : List UInt8) : (dec s).err < 256 := by
  unfold dec
  repeat' split
  all_goals first | decide | exact (by decide : (0 : Nat) < 256)

theorem scanGo_many (s : List UInt8) : ∀ (f : Nat) (acc : List Grp) (k : Nat), k ≤ s.length → 25 * acc.length ≤ k → 25 * (scanGo f s acc k).gs.length ≤ (scanGo f s acc k).pos ∧ (scanGo f s acc k).pos ≤ s.length
  | 0, acc, k, hk, hm => ⟨hm, hk⟩
  | f + 1, acc, k, hk, hm => by
    unfold scanGo
    by_cases h1 : s.length ≤ k
    · rw [if_pos h1]; exact ⟨hm, hk⟩
    rw [if_neg h1]
    by_cases h2 : (dec (s.drop k)).err ≠ 0
    · rw [if_pos h2]; exact ⟨hm, hk⟩
    rw [if_neg h2]
    by_cases h3 : acc ≠ [] ∧ (dec (s.drop k)).num ≠ lastN acc + 1
    · rw [if_pos h3]; exact ⟨hm, hk⟩
    rw [if_neg h3]
    obtain ⟨o1, o2, o3, o4⟩ := dec_ok (s := s.drop k) (by omega)
    rw [List.length_drop] at o4
    exact scanGo_many s f _ _ (by omega) (by rw [List.length_append, List.length_singleton]; omega)
theorem scan_many (s : List UInt8) : 25 * (scan s).gs.length ≤ s.length :=
  have h := scanGo_many s (s.length + 1) [] 0 (Nat.zero_le _) (Nat.le_refl _)
  Nat.le_trans h.1 h.2

namespace Scanning
variable {s : List UInt8} {acc : List Grp} {k : Nat}
theorem start (s : List UInt8) : Scanning s [] 0 := ⟨Nat.zero_le _, Nat.le_refl _, fun g h => (List.not_mem_nil h).elim, _, (by omega), rfl⟩
theorem done (h : Scanning s acc k) (hk : s.length ≤ k) : scan s = ⟨acc, k, 0⟩ := by
  obtain ⟨f, hf, he⟩ := h.goes
  rw [← he]
  rcases f with _ | f
  · rfl
  · unfold scanGo; rw [if_pos hk]
theorem bad (h : Scanning s acc k) (hk : k < s.length) (hb : (dec (s.drop k)).err ≠ 0) : scan s = ⟨acc, k, (dec (s.drop k)).err⟩ := by
  obtain ⟨f, hf, he⟩ := h.goes
  rw [← he]
  rcases f with _ | f
  · omega
  · unfold scanGo; rw [if_neg (by omega), if_pos hb]
theorem order (h : Scanning s acc k) (hk : k < s.length) (hb : (dec (s.drop k)).err = 0) (h0 : acc ≠ []) (hn : (dec (s.drop k)).num ≠ lastN acc + 1) : scan s = ⟨acc, k, 253⟩ := by
  obtain ⟨f, hf, he⟩ := h.goes
  rw [← he]
  rcases f with _ | f
  · omega
  · unfold scanGo; rw [if_neg (by omega), if_neg (by omega), if_pos ⟨h0, hn⟩]
theorem next (h : Scanning s acc k) (hk : k < s.length) (hb : (dec (s.drop k)).err = 0) (hn : acc = [] ∨ (dec (s.drop k)).num = lastN acc + 1) :
    Scanning s (acc ++ [((dec (s.drop k)).num, (dec (s.drop k)).body)]) (k + (dec (s.drop k)).used) := by
  obtain ⟨f, hf, he⟩ := h.goes
  obtain ⟨o1, o2, o3, o4⟩ := dec_ok hb
  rw [List.length_drop] at o4
  have hfit := h.fits
  have hmany := h.many
  refine ⟨by omega, by rw [List.length_append, List.length_singleton]; omega, fun g hg => ?_, ?_⟩
  · rcases List.mem_append.1 hg with hg | hg
    · exact h.nums g hg
    · rw [List.mem_singleton] at hg; subst hg; exact ⟨o1, o2⟩
  rcases f with _ | f
  · omega
  refine ⟨f, by omega, ?_⟩
  rw [← he]
  conv => rhs; unfold scanGo
  rw [if_neg (by omega), if_neg (by omega), if_neg]
  rintro ⟨h1, h2⟩
  rcases hn with hn | hn
  · exact h1 hn
  · exact h2 hn
end Scanning

end Go.Proofs.Ytehggdflhjgkeaa.Pl
