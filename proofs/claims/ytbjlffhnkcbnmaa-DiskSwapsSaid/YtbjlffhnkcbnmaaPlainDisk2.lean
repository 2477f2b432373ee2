/- Plain: what a crash leaves, file by file. -/
import Derived.Test.YtbjlffhnkcbnmaaPlainDisk
namespace Go.Proofs.Ytbjlffhnkcbnmaa.Pl
set_option linter.unusedVariables false

theorem cutAll_other (bs : List Int) : ∀ (l : Nm) (i : Nat) (fs : List Fl) (x : Nat), x ∉ l.map (·.2) → (cutAll bs l i fs)[x]? = fs[x]?
  | [], _, _, _, _ => rfl
  | p :: r, i, fs, x, h => by
    unfold cutAll
    have h1 : p.2 ≠ x := fun e => h (by simp [e])
    have h2 : x ∉ r.map (·.2) := fun hx => h (by rw [List.map_cons]; exact List.mem_cons_of_mem _ hx)
    rw [cutAll_other bs r (i + 1) _ x h2, List.getElem?_modify]
    simp [h1]
theorem cutAll_hit (bs : List Int) : ∀ (l : Nm) (i : Nat) (fs : List Fl), (l.map (·.2)).Nodup → ∀ (r : Nat) (p : Tx × Nat), l[r]? = some p → (cutAll bs l i fs)[p.2]? = (fs[p.2]?).map (cut bs (i + r))
  | [], _, _, _, r, p, h => by simp at h
  | q :: l, i, fs, hn, 0, p, h => by
    simp at h; subst h
    have h1 := List.nodup_cons.1 hn
    unfold cutAll
    rw [cutAll_other bs l (i + 1) _ q.2 h1.1, List.getElem?_modify]
    simp
  | q :: l, i, fs, hn, r + 1, p, h => by
    have h1 := List.nodup_cons.1 hn
    have hp : l[r]? = some p := by simpa using h
    unfold cutAll
    rw [cutAll_hit bs l (i + 1) _ h1.2 r p hp, List.getElem?_modify]
    have hne : q.2 ≠ p.2 := fun e => h1.1 (List.mem_map.2 ⟨p, List.mem_of_getElem? hp, e.symm⟩)
    have : i + 1 + r = i + (r + 1) := by omega
    simp [hne, this]
theorem find_take_none : ∀ {l : Nm} (hr : RisN l) {q : Nat} {p : Tx × Nat}, l[q]? = some p → find (l.take q) p.1 = none
  | [], _, _, _, h => by simp at h
  | x :: l, hr, 0, p, h => rfl
  | x :: l, hr, q + 1, p, h => by
    have h1 := List.pairwise_cons.1 hr
    have hp : l[q]? = some p := by simpa using h
    rw [List.take_succ_cons]
    unfold find
    rw [if_neg (ltN (h1.1 p (List.mem_of_getElem? hp)))]
    exact find_take_none h1.2 hp
theorem insF_last {n : Tx} {f : Nat} : ∀ {l : Nm}, (∀ p ∈ l, p.1 < n) → insF n f l = l ++ [(n, f)]
  | [], _ => rfl
  | p :: r, h => by
    unfold insF
    rw [if_neg (fun hlt => ltA (h p (by simp)) hlt), insF_last fun q hq => h q (by simp [hq])]
    rfl
theorem wo_none {n : Tx} : ∀ {l : Nm}, (∀ p ∈ l, p.1 < n) → wo l n = l := fun {l} h => List.filter_eq_self.2 fun p hp => by simpa using ltN (h p hp)
theorem take_lt : ∀ {l : Nm} (hr : RisN l) {q : Nat} {p : Tx × Nat}, l[q]? = some p → ∀ x ∈ l.take q, x.1 < p.1
  | [], _, _, _, h => by simp at h
  | y :: l, hr, 0, p, h => by simp
  | y :: l, hr, q + 1, p, h => by
    have h1 := List.pairwise_cons.1 hr
    have hp : l[q]? = some p := by simpa using h
    intro x hx
    rw [List.take_succ_cons] at hx
    rcases List.mem_cons.1 hx with rfl | hx
    · exact h1.1 p (List.mem_of_getElem? hp)
    · exact take_lt h1.2 hp x hx
theorem wi_take {l : Nm} (hr : RisN l) {q : Nat} {p : Tx × Nat} (h : l[q]? = some p) : wi (l.take q) p.1 p.2 = l.take (q + 1) := by
  have hl := take_lt hr h
  unfold wi
  rw [wo_none hl, insF_last hl]
  obtain ⟨h1, h2⟩ := List.getElem?_eq_some_iff.1 h
  rw [List.take_succ_eq_append_getElem h1, h2]
theorem ris_take {l : Nm} (h : RisN l) (q : Nat) : RisN (l.take q) := List.Pairwise.sublist (List.take_sublist q l) h
/-- What is left of the first changes. -/
def leftQ (S : Dk) (k : Int) (q : Nat) : Nm := ((S.opn.take q).take k.toNat).foldl change S.last
theorem leftQ_zero (S : Dk) (k : Int) : leftQ S k 0 = S.last := by simp [leftQ]
theorem leftQ_all (S : Dk) (k : Int) : leftQ S k S.opn.length = S.left k := by simp [leftQ, Dk.left]
theorem leftQ_in {S : Dk} {k : Int} {q : Nat} {c : Ch} (hc : S.opn[q]? = some c) (hk : (q : Int) < k) : leftQ S k (q + 1) = change (leftQ S k q) c ∧ leftQ S k q = (S.opn.take q).foldl change S.last := by
  obtain ⟨h1, h2⟩ := List.getElem?_eq_some_iff.1 hc
  unfold leftQ
  have e1 : (S.opn.take (q + 1)).take k.toNat = S.opn.take q ++ [c] := by
    rw [List.take_take, show min k.toNat (q + 1) = q + 1 by omega, List.take_succ_eq_append_getElem h1, h2]
  have e2 : (S.opn.take q).take k.toNat = S.opn.take q := by rw [List.take_take, show min k.toNat q = q by omega]
  rw [e1, e2, List.foldl_append]
  exact ⟨rfl, rfl⟩
theorem leftQ_out {S : Dk} {k : Int} {q : Nat} (hk : ¬ (q : Int) < k) : leftQ S k (q + 1) = leftQ S k q := by
  unfold leftQ
  rw [List.take_take, List.take_take, show min k.toNat (q + 1) = min k.toNat q by omega]
end Go.Proofs.Ytbjlffhnkcbnmaa.Pl
