/- Plain: what is read holds ints and is no longer than what it was read from. -/
import Derived.Test.YtpngmbdchceikaaDoorPlainResp2
namespace Go.Proofs.YtpngmbdchceikaaDoor.Pl
open Go.Lib
set_option linter.unusedVariables false
set_option linter.unusedSimpArgs false

theorem enc_pos (d : Nat) (r : R) : 1 ≤ (encL d r).length := by
  rw [encL.eq_def]
  split
  all_goals (repeat' split) <;> simp
theorem flat_len {f : R → List UInt8} (hf : ∀ x, 1 ≤ (f x).length) : ∀ l : List R, l.length ≤ (l.flatMap f).length
  | [] => by simp
  | x :: l => by
    have := flat_len hf l
    have := hf x
    simp only [List.flatMap_cons, List.length_append, List.length_cons]
    omega
theorem rd_small {d : Nat} {l : List UInt8} {r : R} {k : Nat} (h : rd d l = .ok r k) : r.t.length ≤ l.length ∧ r.l.length ≤ l.length ∧ -9223372036854775808 ≤ r.n ∧ r.n ≤ 9223372036854775807 := by
  obtain ⟨h1, h2⟩ := rd_forth d l r k h
  have hlen : (encL d r).length ≤ l.length := by rw [h2, List.length_take]; omega
  rcases may_cases h1 with hf | ⟨e, rfl, rfl | ⟨m, rfl, hm⟩⟩
  · rcases flat_cases hf with ⟨t, rfl, -⟩ | ⟨t, rfl, -⟩ | ⟨n, rfl⟩ | ⟨t, rfl⟩ | rfl
    · rw [encL.eq_def] at hlen
      simp [R.k, R.t, R.n, R.l] at hlen ⊢; omega
    · rw [encL.eq_def] at hlen
      simp [R.k, R.t, R.n, R.l] at hlen ⊢; omega
    · refine ⟨by simp [R.t], by simp [R.l], ?_⟩
      cases l with
      | nil => rw [rd_nil] at h; cases h
      | cons c l =>
        have hk : k ≠ 0 := by
          intro e; subst e
          have := enc_pos d (.mk 3 [] n [])
          rw [h2] at this; simp at this
        have hc : c = 58 := by
          obtain ⟨j, rfl⟩ : ∃ j, k = j + 1 := ⟨k - 1, by omega⟩
          rw [encL.eq_def, List.take_succ_cons] at h2
          simp [R.k, R.t, R.n, R.l] at h2
          exact h2.1.symm
        subst hc
        rw [rd_cons, if_neg (by decide), if_neg (by decide), if_pos rfl] at h
        cases hn : numS (-9223372036854775808) 9223372036854775807 l with
        | bad => rw [hn] at h; cases h
        | more => rw [hn] at h; cases h
        | ok m j =>
          rw [hn] at h
          simp only [Rd.ok.injEq, R.mk.injEq] at h
          obtain ⟨⟨-, -, rfl, -⟩, -⟩ := h
          obtain ⟨_, _, _, _, _, a, b, _⟩ := numS_ok hn
          exact ⟨a, b⟩
    · rw [encL.eq_def] at hlen
      simp [R.k, R.t, R.n, R.l] at hlen ⊢; omega
    · simp [R.k, R.t, R.n, R.l]
  · simp [R.k, R.t, R.n, R.l]
  · refine ⟨by simp [R.t], ?_, by simp [R.n], by simp [R.n]⟩
    rw [encL.eq_def] at hlen
    have := flat_len (f := encL e) (enc_pos e) m
    simp [R.k, R.t, R.n, R.l] at hlen ⊢
    simp only [List.length_flatMap] at this hlen ⊢
    omega
end Go.Proofs.YtpngmbdchceikaaDoor.Pl
