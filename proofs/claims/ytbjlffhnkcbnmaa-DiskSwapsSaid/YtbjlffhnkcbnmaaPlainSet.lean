/- Plain lists of texts: rising lists, the set of a list, two rising lists gone through together. -/
import Derived.Test.YtbjlffhnkcbnmaaRows
import Derived.Lib.SlicesCompact
namespace Go.Proofs.Ytbjlffhnkcbnmaa.Pl
open Go.Lib
set_option linter.unusedVariables false

abbrev Tx := List UInt8
theorem tri (a b : Tx) : a < b ∨ a = b ∨ b < a := by
  by_cases h : a < b
  · exact .inl h
  by_cases k : b < a
  · exact .inr (.inr k)
  · exact .inr (.inl (List.le_antisymm (List.not_lt.1 k) (List.not_lt.1 h)))
theorem ltT {a b c : Tx} (h : a < b) (k : b < c) : a < c := List.lt_trans h k
theorem ltI (a : Tx) : ¬ a < a := List.lt_irrefl a
theorem ltN {a b : Tx} (h : a < b) : a ≠ b := fun e => ltI b (e ▸ h)
theorem ltA {a b : Tx} (h : a < b) : ¬ b < a := List.lt_asymm h
def Rising (l : List Tx) : Prop := l.Pairwise (· < ·)
def ins (x : Tx) : List Tx → List Tx
  | [] => [x]
  | y :: r => if y < x then y :: ins x r else if y = x then y :: r else x :: y :: r
def ofS (l : List Tx) : List Tx := l.foldl (fun a x => ins x a) []
theorem mem_ins {x z : Tx} : ∀ {l : List Tx}, z ∈ ins x l ↔ z = x ∨ z ∈ l
  | [] => by simp [ins]
  | y :: r => by
    unfold ins
    split
    · rw [List.mem_cons, mem_ins, List.mem_cons]
      exact ⟨fun h => h.elim (fun e => .inr (.inl e)) (fun h => h.elim .inl (fun h => .inr (.inr h))), fun h => h.elim (fun e => .inr (.inl e)) (fun h => h.elim .inl (fun h => .inr (.inr h)))⟩
    · split
      · rename_i e
        subst e
        simp
      · simp
theorem rising_ins {x : Tx} : ∀ {l : List Tx}, Rising l → Rising (ins x l)
  | [], _ => by simp [ins, Rising]
  | y :: r, h => by
    have h1 := List.pairwise_cons.1 h
    unfold ins
    split
    · rename_i hy
      refine List.pairwise_cons.2 ⟨fun z hz => ?_, rising_ins h1.2⟩
      rcases mem_ins.1 hz with rfl | hz
      · exact hy
      · exact h1.1 z hz
    · split
      · exact h
      · rename_i hy hn
        have hxy : x < y := by
          rcases tri x y with h | h | h
          · exact h
          · exact absurd h.symm hn
          · exact absurd h hy
        refine List.pairwise_cons.2 ⟨fun z hz => ?_, h⟩
        rcases List.mem_cons.1 hz with rfl | hz
        · exact hxy
        · exact ltT hxy (h1.1 z hz)
theorem ins_length (x : Tx) : ∀ l : List Tx, (ins x l).length ≤ l.length + 1
  | [] => by simp [ins]
  | y :: r => by
    unfold ins
    split
    · have := ins_length x r; simp; omega
    · split <;> simp
theorem ofS_snoc (l : List Tx) (x : Tx) : ofS (l ++ [x]) = ins x (ofS l) := by simp [ofS, List.foldl_append]
theorem fold_mem (l : List Tx) : ∀ (a : List Tx) (z : Tx), z ∈ l.foldl (fun a x => ins x a) a ↔ z ∈ a ∨ z ∈ l := by
  induction l with
  | nil => intro a z; simp
  | cons x r ih =>
    intro a z
    rw [List.foldl_cons, ih, mem_ins, List.mem_cons]
    exact ⟨fun h => h.elim (fun h => h.elim (fun e => .inr (.inl e)) .inl) (fun h => .inr (.inr h)), fun h => h.elim (fun h => .inl (.inr h)) (fun h => h.elim (fun e => .inl (.inl e)) .inr)⟩
theorem fold_rising (l : List Tx) : ∀ a : List Tx, Rising a → Rising (l.foldl (fun a x => ins x a) a) := by
  induction l with
  | nil => intro a h; exact h
  | cons x r ih => intro a h; exact ih _ (rising_ins h)
theorem fold_length (l : List Tx) : ∀ a : List Tx, (l.foldl (fun a x => ins x a) a).length ≤ a.length + l.length := by
  induction l with
  | nil => intro a; simp
  | cons x r ih => intro a; rw [List.foldl_cons]; have := ih (ins x a); have := ins_length x a; simp; omega
theorem mem_ofS {l : List Tx} {z : Tx} : z ∈ ofS l ↔ z ∈ l := by unfold ofS; rw [fold_mem]; simp
theorem rising_ofS (l : List Tx) : Rising (ofS l) := fold_rising l [] List.Pairwise.nil
theorem ofS_length (l : List Tx) : (ofS l).length ≤ l.length := by have := fold_length l []; simpa [ofS] using this
theorem rising_ext : ∀ {a b : List Tx}, Rising a → Rising b → (∀ x, x ∈ a ↔ x ∈ b) → a = b
  | [], [], _, _, _ => rfl
  | [], y :: b, _, _, h => by have := (h y).2 (by simp); simp at this
  | x :: a, [], _, _, h => by have := (h x).1 (by simp); simp at this
  | x :: a, y :: b, ha, hb, h => by
    have ha1 := List.pairwise_cons.1 ha
    have hb1 := List.pairwise_cons.1 hb
    have hxy : x = y := by
      rcases List.mem_cons.1 ((h x).1 (by simp)) with e | e
      · exact e
      · rcases List.mem_cons.1 ((h y).2 (by simp)) with e2 | e2
        · exact e2.symm
        · exact absurd (ha1.1 y e2) (ltA (hb1.1 x e))
    subst hxy
    congr 1
    refine rising_ext ha1.2 hb1.2 fun z => ⟨fun hz => ?_, fun hz => ?_⟩
    · rcases List.mem_cons.1 ((h z).1 (by simp [hz])) with e | e
      · exact absurd e.symm (ltN (ha1.1 z hz))
      · exact e
    · rcases List.mem_cons.1 ((h z).2 (by simp [hz])) with e | e
      · exact absurd e.symm (ltN (hb1.1 z hz))
      · exact e
theorem ofS_unique {a l : List Tx} (ha : Rising a) (h : ∀ x, x ∈ a ↔ x ∈ l) : a = ofS l := rising_ext ha (rising_ofS l) fun x => (h x).trans mem_ofS.symm
theorem ofS_rising {a : List Tx} (ha : Rising a) : ofS a = a := (ofS_unique ha fun _ => Iff.rfl).symm
theorem ofS_congr {a b : List Tx} (h : ∀ x, x ∈ a ↔ x ∈ b) : ofS a = ofS b := rising_ext (rising_ofS a) (rising_ofS b) fun x => mem_ofS.trans ((h x).trans mem_ofS.symm)
theorem rising_sub {a b : List Tx} (h : b.Sublist a) (ha : Rising a) : Rising b := ha.sublist h

/-- slices.Compact of a sorted list. -/
theorem compact_sorted (zs : List Tx) (h : zs.Pairwise (fun a b => ¬ b < a)) : Rising (compact zs) ∧ ∀ x, x ∈ compact zs ↔ x ∈ zs := by
  have get : ∀ j (hj : j < zs.length), zs.toArray[j]! = zs[j] := fun j hj => by simp [hj]
  have key : ∀ m, m ≤ zs.length → Rising (compactUpTo zs.toArray m) ∧ ∀ x, x ∈ compactUpTo zs.toArray m ↔ ∃ j, ∃ hj : j < zs.length, j < m ∧ zs[j] = x := by
    intro m
    induction m with
    | zero => intro _; exact ⟨List.Pairwise.nil, fun x => by simp [compactUpTo]⟩
    | succ m ih =>
      intro hm
      obtain ⟨h1, h2⟩ := ih (by omega)
      rw [compactUpTo_succ]
      have hmm : m < zs.length := by omega
      have gm := get m hmm
      have le : ∀ j (hj : j < m), ¬ zs[m] < zs[j] := fun j hj => List.pairwise_iff_getElem.1 h j m (by omega) hmm hj
      rcases hk : keeps zs.toArray m with _ | _
      · rw [if_neg (by simp), List.append_nil]
        refine ⟨h1, fun x => (h2 x).trans ⟨fun ⟨j, hj, hjm, e⟩ => ⟨j, hj, by omega, e⟩, fun ⟨j, hj, hjm, e⟩ => ?_⟩⟩
        by_cases hj2 : j = m
        · subst hj2
          have hne : ¬ (j = 0 ∨ zs.toArray[j]! ≠ zs.toArray[j - 1]!) := by unfold keeps at hk; exact of_decide_eq_false hk
          simp only [not_or, ne_eq, Decidable.not_not] at hne
          exact ⟨j - 1, by omega, by omega, (get (j - 1) (by omega)).symm.trans (hne.2.symm.trans ((get j hj).trans e))⟩
        · exact ⟨j, hj, by omega, e⟩
      · rw [if_pos rfl, gm]
        constructor
        · refine List.pairwise_append.2 ⟨h1, by simp, fun x hx y hy => ?_⟩
          obtain rfl : y = zs[m] := by simpa using hy
          obtain ⟨j, hj, hjm, rfl⟩ := (h2 x).1 hx
          have hm1 : zs[m - 1]'(by omega) ≠ zs[m] := by
            have : m = 0 ∨ zs.toArray[m]! ≠ zs.toArray[m - 1]! := by unfold keeps at hk; exact of_decide_eq_true hk
            rcases this with h0 | h0
            · omega
            · rw [gm, get (m - 1) (by omega)] at h0
              exact fun e => h0 e.symm
          have hlt1 : zs[m - 1]'(by omega) < zs[m] := by
            rcases tri (zs[m - 1]'(by omega)) zs[m] with h | h | h
            · exact h
            · exact absurd h hm1
            · exact absurd h (le (m - 1) (by omega))
          rcases tri zs[j] zs[m] with h3 | h3 | h3
          · exact h3
          · exfalso
            by_cases hj1 : j = m - 1
            · subst hj1; exact hm1 h3
            · have := List.pairwise_iff_getElem.1 h j (m - 1) hj (by omega) (by omega)
              exact this (h3 ▸ hlt1)
          · exact absurd h3 (le j hjm)
        · intro x
          rw [List.mem_append, h2]
          constructor
          · rintro (⟨j, hj, hjm, e⟩ | hx)
            · exact ⟨j, hj, by omega, e⟩
            · exact ⟨m, hmm, by omega, by simpa using (List.mem_singleton.1 hx).symm⟩
          · rintro ⟨j, hj, hjm, e⟩
            by_cases hj2 : j = m
            · subst hj2; exact .inr (by rw [← e]; simp)
            · exact .inl ⟨j, hj, by omega, e⟩
  obtain ⟨h1, h2⟩ := key zs.length (Nat.le_refl _)
  refine ⟨h1, fun x => (h2 x).trans ⟨fun ⟨j, hj, _, e⟩ => e ▸ List.getElem_mem hj, fun hx => ?_⟩⟩
  obtain ⟨j, hj, e⟩ := List.mem_iff_getElem.1 hx
  exact ⟨j, hj, hj, e⟩
theorem sorted_merge (l : List Tx) : (l.mergeSort fun x y => decide (x ≤ y)).Pairwise (fun a b => ¬ b < a) := by
  have := List.pairwise_mergeSort (le := fun x y : Tx => decide (x ≤ y)) (fun a b c h k => by
    simp only [decide_eq_true_eq] at *
    exact List.le_trans h k) (fun a b => by
    rcases List.le_total a b with h | h <;> simp [h]) l
  exact this.imp fun h => of_decide_eq_true h
theorem compact_ofS (l : List Tx) : compact (l.mergeSort fun x y => decide (x ≤ y)) = ofS l := by
  obtain ⟨h1, h2⟩ := compact_sorted _ (sorted_merge l)
  exact ofS_unique h1 fun x => (h2 x).trans (List.mergeSort_perm l _).mem_iff

/-- Two lists gone through together. -/
def mg (f b s : Bool) : List Tx → List Tx → List Tx
  | [], [] => []
  | x :: xs, [] => (if f then [x] else []) ++ mg f b s xs []
  | [], y :: ys => (if s then [y] else []) ++ mg f b s [] ys
  | x :: xs, y :: ys => if x < y then (if f then [x] else []) ++ mg f b s xs (y :: ys) else if y < x then (if s then [y] else []) ++ mg f b s (x :: xs) ys else (if b then [x] else []) ++ mg f b s xs ys
termination_by l r => l.length + r.length
theorem mg_sub (f b s : Bool) : ∀ (n : Nat) (l r : List Tx), l.length + r.length ≤ n → ∀ z, z ∈ mg f b s l r → z ∈ l ∨ z ∈ r
  | _, [], [], _, z, h => by simp [mg] at h
  | n, x :: xs, [], hn, z, h => by
    rw [mg, List.mem_append] at h
    obtain ⟨m, rfl⟩ : ∃ m, n = m + 1 := ⟨n - 1, by simp at hn; omega⟩
    rcases h with h | h
    · left; split at h <;> simp at h; simp [h]
    · rcases mg_sub f b s m xs [] (by simp at hn ⊢; omega) z h with h | h
      · exact .inl (by simp [h])
      · simp at h
  | n, [], y :: ys, hn, z, h => by
    rw [mg, List.mem_append] at h
    obtain ⟨m, rfl⟩ : ∃ m, n = m + 1 := ⟨n - 1, by simp at hn; omega⟩
    rcases h with h | h
    · right; split at h <;> simp at h; simp [h]
    · rcases mg_sub f b s m [] ys (by simp at hn ⊢; omega) z h with h | h
      · simp at h
      · exact .inr (by simp [h])
  | n, x :: xs, y :: ys, hn, z, h => by
    rw [mg] at h
    obtain ⟨m, rfl⟩ : ∃ m, n = m + 1 := ⟨n - 1, by simp at hn; omega⟩
    split at h
    · rcases List.mem_append.1 h with h | h
      · left; split at h <;> simp at h; simp [h]
      · rcases mg_sub f b s m xs (y :: ys) (by simp at hn ⊢; omega) z h with h | h
        · exact .inl (by simp [h])
        · exact .inr h
    · split at h
      · rcases List.mem_append.1 h with h | h
        · right; split at h <;> simp at h; simp [h]
        · rcases mg_sub f b s m (x :: xs) ys (by simp at hn ⊢; omega) z h with h | h
          · exact .inl h
          · exact .inr (by simp [h])
      · rcases List.mem_append.1 h with h | h
        · left; split at h <;> simp at h; simp [h]
        · rcases mg_sub f b s m xs ys (by simp at hn ⊢; omega) z h with h | h
          · exact .inl (by simp [h])
          · exact .inr (by simp [h])
/-- What is kept. -/
def Keeps (f b s : Bool) (l r : List Tx) (z : Tx) : Prop := (f = true ∧ z ∈ l ∧ z ∉ r) ∨ (b = true ∧ z ∈ l ∧ z ∈ r) ∨ (s = true ∧ z ∉ l ∧ z ∈ r)
theorem mg_facts (f b s : Bool) : ∀ (n : Nat) (l r : List Tx), l.length + r.length ≤ n → Rising l → Rising r → Rising (mg f b s l r) ∧ ∀ z, z ∈ mg f b s l r ↔ Keeps f b s l r z
  | _, [], [], _, _, _ => by rw [mg]; exact ⟨List.Pairwise.nil, fun z => by simp [Keeps]⟩
  | n, x :: xs, [], hn, hl, hr => by
    obtain ⟨m, rfl⟩ : ∃ m, n = m + 1 := ⟨n - 1, by simp at hn; omega⟩
    have h1 := List.pairwise_cons.1 hl
    obtain ⟨i1, i2⟩ := mg_facts f b s m xs [] (by simp at hn ⊢; omega) h1.2 hr
    rw [mg]
    have sub := mg_sub f b s m xs [] (by simp at hn ⊢; omega)
    constructor
    · split
      · exact List.pairwise_cons.2 ⟨fun z hz => (sub z hz).elim (h1.1 z) (fun h => by simp at h), i1⟩
      · exact i1
    · intro z
      rw [List.mem_append, i2]
      unfold Keeps
      cases f <;> simp [eq_comm]
  | n, [], y :: ys, hn, hl, hr => by
    obtain ⟨m, rfl⟩ : ∃ m, n = m + 1 := ⟨n - 1, by simp at hn; omega⟩
    have h1 := List.pairwise_cons.1 hr
    obtain ⟨i1, i2⟩ := mg_facts f b s m [] ys (by simp at hn ⊢; omega) hl h1.2
    rw [mg]
    have sub := mg_sub f b s m [] ys (by simp at hn ⊢; omega)
    constructor
    · split
      · exact List.pairwise_cons.2 ⟨fun z hz => (sub z hz).elim (fun h => by simp at h) (h1.1 z), i1⟩
      · exact i1
    · intro z
      rw [List.mem_append, i2]
      unfold Keeps
      cases s <;> simp [eq_comm]
  | n, x :: xs, y :: ys, hn, hl, hr => by
    obtain ⟨m, rfl⟩ : ∃ m, n = m + 1 := ⟨n - 1, by simp at hn; omega⟩
    have h1 := List.pairwise_cons.1 hl
    have h2 := List.pairwise_cons.1 hr
    rw [mg]
    split
    · rename_i hxy
      obtain ⟨i1, i2⟩ := mg_facts f b s m xs (y :: ys) (by simp at hn ⊢; omega) h1.2 hr
      have sub := mg_sub f b s m xs (y :: ys) (by simp at hn ⊢; omega)
      have hx : x ∉ y :: ys := fun h => (List.mem_cons.1 h).elim (fun e => ltN hxy e) (fun h => ltN (ltT hxy (h2.1 x h)) rfl)
      constructor
      · split
        · exact List.pairwise_cons.2 ⟨fun z hz => (sub z hz).elim (h1.1 z) (fun h => (List.mem_cons.1 h).elim (fun e => e ▸ hxy) (fun h => ltT hxy (h2.1 z h))), i1⟩
        · exact i1
      · intro z
        rw [List.mem_append, i2]
        have hzz : z ∈ (if f = true then [x] else []) ↔ f = true ∧ z = x := by cases f <;> simp
        rw [hzz]
        unfold Keeps
        rw [List.mem_cons (a := z) (b := x)]
        by_cases e : z = x
        · have hn3 : z ∉ xs := fun h => ltN (h1.1 z h) e.symm
          simp [e, hx, (e ▸ hn3 : x ∉ xs)]
        · simp [e]
    · rename_i hxy
      split
      · rename_i hyx
        obtain ⟨i1, i2⟩ := mg_facts f b s m (x :: xs) ys (by simp at hn ⊢; omega) hl h2.2
        have sub := mg_sub f b s m (x :: xs) ys (by simp at hn ⊢; omega)
        have hy : y ∉ x :: xs := fun h => (List.mem_cons.1 h).elim (fun e => ltN hyx e) (fun h => ltN (ltT hyx (h1.1 y h)) rfl)
        constructor
        · split
          · exact List.pairwise_cons.2 ⟨fun z hz => (sub z hz).elim (fun h => (List.mem_cons.1 h).elim (fun e => e ▸ hyx) (fun h => ltT hyx (h1.1 z h))) (h2.1 z), i1⟩
          · exact i1
        · intro z
          rw [List.mem_append, i2]
          have hzz : z ∈ (if s = true then [y] else []) ↔ s = true ∧ z = y := by cases s <;> simp
          rw [hzz]
          unfold Keeps
          rw [List.mem_cons (a := z) (b := y)]
          by_cases e : z = y
          · have hn3 : z ∉ ys := fun h => ltN (h2.1 z h) e.symm
            simp [e, hy, (e ▸ hn3 : y ∉ ys)]
          · simp [e]
      · rename_i hyx
        obtain rfl : x = y := by
          rcases tri x y with h | h | h
          · exact absurd h hxy
          · exact h
          · exact absurd h hyx
        obtain ⟨i1, i2⟩ := mg_facts f b s m xs ys (by simp at hn ⊢; omega) h1.2 h2.2
        have sub := mg_sub f b s m xs ys (by simp at hn ⊢; omega)
        constructor
        · split
          · exact List.pairwise_cons.2 ⟨fun z hz => (sub z hz).elim (h1.1 z) (h2.1 z), i1⟩
          · exact i1
        · intro z
          rw [List.mem_append, i2]
          have hzz : z ∈ (if b = true then [x] else []) ↔ b = true ∧ z = x := by cases b <;> simp
          rw [hzz]
          unfold Keeps
          rw [List.mem_cons (a := z) (b := x), List.mem_cons (a := z) (b := x)]
          by_cases e : z = x
          · have hn3 : z ∉ xs := fun h => ltN (h1.1 z h) e.symm
            have hn4 : z ∉ ys := fun h => ltN (h2.1 z h) e.symm
            simp [e, (e ▸ hn3 : x ∉ xs), (e ▸ hn4 : x ∉ ys)]
          · simp [e]
theorem rising_mg (f b s : Bool) {l r : List Tx} (hl : Rising l) (hr : Rising r) : Rising (mg f b s l r) := (mg_facts f b s _ l r (Nat.le_refl _) hl hr).1
theorem mem_mg (f b s : Bool) {l r : List Tx} (hl : Rising l) (hr : Rising r) (z : Tx) : z ∈ mg f b s l r ↔ Keeps f b s l r z := (mg_facts f b s _ l r (Nat.le_refl _) hl hr).2 z
theorem mg_length (f b s : Bool) : ∀ (n : Nat) (l r : List Tx), l.length + r.length ≤ n → (mg f b s l r).length ≤ l.length + r.length
  | _, [], [], _ => by simp [mg]
  | n, x :: xs, [], hn => by
    obtain ⟨m, rfl⟩ : ∃ m, n = m + 1 := ⟨n - 1, by simp at hn; omega⟩
    have := mg_length f b s m xs [] (by simp at hn ⊢; omega)
    rw [mg]; cases f <;> simp at this ⊢ <;> omega
  | n, [], y :: ys, hn => by
    obtain ⟨m, rfl⟩ : ∃ m, n = m + 1 := ⟨n - 1, by simp at hn; omega⟩
    have := mg_length f b s m [] ys (by simp at hn ⊢; omega)
    rw [mg]; cases s <;> simp at this ⊢ <;> omega
  | n, x :: xs, y :: ys, hn => by
    obtain ⟨m, rfl⟩ : ∃ m, n = m + 1 := ⟨n - 1, by simp at hn; omega⟩
    have h1 := mg_length f b s m xs (y :: ys) (by simp at hn ⊢; omega)
    have h2 := mg_length f b s m (x :: xs) ys (by simp at hn ⊢; omega)
    have h3 := mg_length f b s m xs ys (by simp at hn ⊢; omega)
    rw [mg]
    split
    · cases f <;> simp at h1 ⊢ <;> omega
    · split
      · cases s <;> simp at h2 ⊢ <;> omega
      · cases b <;> simp at h3 ⊢ <;> omega
/-- The set with more; without some; what both have. -/
theorem mg_union (l r : List Tx) : mg true true true (ofS l) (ofS r) = ofS (l ++ r) :=
  ofS_unique (rising_mg _ _ _ (rising_ofS l) (rising_ofS r)) fun x => by
    rw [mem_mg _ _ _ (rising_ofS l) (rising_ofS r)]
    unfold Keeps
    simp only [mem_ofS, List.mem_append]
    by_cases h1 : x ∈ l <;> by_cases h2 : x ∈ r <;> simp [h1, h2]
theorem mg_diff (a r : List Tx) (ha : Rising a) : mg true false false a (ofS r) = a.filter (fun x => !r.contains x) :=
  rising_ext (rising_mg _ _ _ ha (rising_ofS r)) (rising_sub List.filter_sublist ha) fun x => by
    rw [mem_mg _ _ _ ha (rising_ofS r)]
    unfold Keeps
    simp [mem_ofS]
theorem mg_inter (a r : List Tx) (ha : Rising a) : mg false true false a (ofS r) = a.filter (fun x => r.contains x) :=
  rising_ext (rising_mg _ _ _ ha (rising_ofS r)) (rising_sub List.filter_sublist ha) fun x => by
    rw [mem_mg _ _ _ ha (rising_ofS r)]
    unfold Keeps
    simp [mem_ofS]

/-! The reference's own text: a place sought from the end. -/
theorem ins_at : ∀ (l : List Tx) (x : Tx) (k : Nat), Rising l → k ≤ l.length → (∀ j (hj : j < l.length), j < k → ¬ x < l[j]) → (∀ j (hj : j < l.length), k ≤ j → x < l[j]) →
    ins x l = if h : 0 < k ∧ ∃ hk : k - 1 < l.length, l[k - 1] = x then l else l.take k ++ x :: l.drop k
  | [], x, k, _, hk, _, _ => by
    obtain rfl : k = 0 := by simpa using hk
    rw [dif_neg (by simp)]; rfl
  | y :: r, x, 0, hr, hk, h1, h2 => by
    have hxy := h2 0 (by simp) (Nat.le_refl _)
    rw [dif_neg (by simp)]
    unfold ins
    rw [if_neg (ltA (by simpa using hxy)), if_neg (fun e => ltN (by simpa using hxy) e.symm)]
    rfl
  | y :: r, x, k + 1, hr, hk, h1, h2 => by
    have hp := List.pairwise_cons.1 hr
    have hyx : ¬ x < y := by have := h1 0 (by simp) (by omega); simpa using this
    have ih := ins_at r x k hp.2 (by simpa using hk) (fun j hj hjk => by have := h1 (j + 1) (by simp; omega) (by omega); simpa using this) (fun j hj hjk => by have := h2 (j + 1) (by simp; omega) (by omega); simpa using this)
    unfold ins
    rcases tri x y with h | rfl | h
    · exact absurd h hyx
    · rw [if_neg (ltI x), if_pos rfl]
      have hk0 : k = 0 := by
        cases k with
        | zero => rfl
        | succ k =>
          exfalso
          have h0 : 0 < r.length := by simp at hk; omega
          have := h1 1 (by simp; omega) (by omega)
          exact this (by simpa using hp.1 r[0] (List.getElem_mem h0))
      subst hk0
      rw [dif_pos ⟨by omega, by simp, by simp⟩]
    · rw [if_pos h, ih]
      have hne : y ≠ x := ltN h
      by_cases hc : 0 < k ∧ ∃ hk : k - 1 < r.length, r[k - 1] = x
      · rw [dif_pos hc, dif_pos]
        obtain ⟨c0, c1, c2⟩ := hc
        refine ⟨by omega, by simp; omega, ?_⟩
        obtain ⟨q, rfl⟩ : ∃ q, k = q + 1 := ⟨k - 1, by omega⟩
        simpa using c2
      · rw [dif_neg hc, dif_neg]
        · rfl
        · rintro ⟨_, c1, c2⟩
          cases k with
          | zero => simp at c2; exact hne c2
          | succ q => exact hc ⟨by omega, by simp at c1 ⊢; omega, by simpa using c2⟩
/-- The row while it is shifted: places below k as they were, one copy, the rest moved on. -/
def shift (l : List Tx) (k : Nat) : List Tx := l.take k ++ (if h : k < l.length then l[k] else []) :: l.drop k
theorem shift_length (l : List Tx) (k : Nat) (hk : k ≤ l.length) : (shift l k).length = l.length + 1 := by simp [shift]; omega
theorem shift_start (l : List Tx) : shift l l.length = l ++ [[]] := by simp [shift]
theorem shift_get {l : List Tx} {k : Nat} (h0 : 0 < k) (hk : k ≤ l.length) : (shift l k)[k - 1]? = some (l[k - 1]'(by omega)) := by
  unfold shift
  rw [List.getElem?_append_left (by simp; omega), List.getElem?_take, if_pos (by omega), List.getElem?_eq_getElem (by omega)]
theorem shift_set {l : List Tx} {k : Nat} (h0 : 0 < k) (hk : k ≤ l.length) : (shift l k).set k (l[k - 1]'(by omega)) = shift l (k - 1) := by
  unfold shift
  obtain ⟨q, rfl⟩ : ∃ q, k = q + 1 := ⟨k - 1, by omega⟩
  have hq : q < l.length := by omega
  rw [List.set_append_right _ _ (by simp; omega), dif_pos (show q + 1 - 1 < l.length by omega)]
  simp only [List.length_take, Nat.add_sub_cancel]
  rw [show q + 1 - min (q + 1) l.length = 0 by omega, List.set_cons_zero, List.take_succ_eq_append_getElem hq, List.append_assoc, List.drop_eq_getElem_cons hq]
  rfl
theorem shift_end {l : List Tx} {k : Nat} (hk : k ≤ l.length) (x : Tx) : (shift l k).set k x = l.take k ++ x :: l.drop k := by
  unfold shift
  rw [List.set_append_right _ _ (by simp; omega)]
  simp only [List.length_take]
  rw [show k - min k l.length = 0 by omega, List.set_cons_zero]
end Go.Proofs.Ytbjlffhnkcbnmaa.Pl
