/- Plain: where a name is laid. -/
import Derived.Test.YtbjlffhnkcbnmaaPlainDisk
namespace Go.Proofs.Ytbjlffhnkcbnmaa.Pl
set_option linter.unusedVariables false

/-- The names ahead of n, the names behind it. -/
structure Cut (n : Tx) (f : Nat) (L A B : Nm) : Prop where
  eq : L = A ++ B
  lo : ∀ p ∈ A, p.1 < n
  hi : ∀ p ∈ B, n < p.1
  ins : insF n f L = A ++ (n, f) :: B
theorem insF_cut (n : Tx) (f : Nat) : ∀ (L : Nm), RisN L → (∀ p ∈ L, p.1 ≠ n) → ∃ A B, Cut n f L A B
  | [], _, _ => ⟨[], [], rfl, fun p h => by simp at h, fun p h => by simp at h, rfl⟩
  | p :: r, hr, hn => by
    have h1 := List.pairwise_cons.1 hr
    by_cases h : n < p.1
    · refine ⟨[], p :: r, rfl, fun q hq => by simp at hq, fun q hq => ?_, by unfold insF; rw [if_pos h]; rfl⟩
      rcases List.mem_cons.1 hq with rfl | hq
      · exact h
      · exact List.lt_trans h (h1.1 q hq)
    · obtain ⟨A, B, e⟩ := insF_cut n f r h1.2 fun q hq => hn q (List.mem_cons_of_mem _ hq)
      have hp := hn p (by simp)
      have hlt : p.1 < n := (tri p.1 n).elim id fun h2 => h2.elim (fun e => absurd e hp) (fun h2 => absurd h2 h)
      refine ⟨p :: A, B, by rw [e.eq]; rfl, fun q hq => ?_, e.hi, by unfold insF; rw [if_neg h, e.ins]; rfl⟩
      rcases List.mem_cons.1 hq with rfl | hq
      · exact hlt
      · exact e.lo q hq
theorem wo_ne (l : Nm) (n : Tx) : ∀ p ∈ wo l n, p.1 ≠ n := fun p hp => by
  have := (List.mem_filter.1 hp).2
  simpa using this
end Go.Proofs.Ytbjlffhnkcbnmaa.Pl
