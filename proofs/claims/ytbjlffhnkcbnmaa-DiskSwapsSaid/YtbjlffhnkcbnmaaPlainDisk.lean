/- Plain: files under names, what a crash leaves. -/
import Derived.Test.YtbjlffhnkcbnmaaPlainSet
namespace Go.Proofs.Ytbjlffhnkcbnmaa.Pl
set_option linter.unusedVariables false

structure Fl where
  text : Tx
  sync : Nat
structure Ch where
  kind : Nat
  src : Tx
  dst : Tx
  file : Nat
abbrev Nm := List (Tx × Nat)
def find : Nm → Tx → Option Nat
  | [], _ => none
  | p :: r, n => if p.1 = n then some p.2 else find r n
def wo (l : Nm) (n : Tx) : Nm := l.filter fun p => decide (p.1 ≠ n)
def insF (n : Tx) (f : Nat) : Nm → Nm
  | [] => [(n, f)]
  | p :: r => if n < p.1 then (n, f) :: p :: r else p :: insF n f r
def wi (l : Nm) (n : Tx) (f : Nat) : Nm := insF n f (wo l n)
def change (l : Nm) (c : Ch) : Nm := if c.kind = 1 then wi l c.src c.file else if c.kind = 2 then wi (wo l c.src) c.dst c.file else wo l c.src
def RisN (l : Nm) : Prop := l.Pairwise fun a b => a.1 < b.1
theorem find_mem : ∀ {l : Nm} {n : Tx} {f : Nat}, find l n = some f → (n, f) ∈ l
  | [], _, _, h => by simp [find] at h
  | p :: r, n, f, h => by
    unfold find at h
    split at h
    next e => obtain ⟨a, b⟩ := p; simp only [Option.some.injEq] at h; subst h; simp only at e; subst e; simp
    next e => exact List.mem_cons_of_mem _ (find_mem h)
theorem find_of_mem : ∀ {l : Nm} {n : Tx} {f : Nat}, RisN l → (n, f) ∈ l → find l n = some f
  | [], _, _, _, h => by simp at h
  | p :: r, n, f, hr, h => by
    have h1 := List.pairwise_cons.1 hr
    unfold find
    rcases List.mem_cons.1 h with h | h
    · subst h; simp
    · have hlt := h1.1 _ h
      rw [if_neg (ltN hlt)]
      exact find_of_mem h1.2 h
theorem find_wo : ∀ (l : Nm) (n k : Tx), find (wo l n) k = if k = n then none else find l k
  | [], n, k => by simp [wo, find]
  | p :: r, n, k => by
    unfold wo
    rw [List.filter_cons]
    have ih := find_wo r n k
    unfold wo at ih
    by_cases e : p.1 = n
    · rw [if_neg (by simp [e]), ih]
      by_cases e2 : k = n
      · simp [e2]
      · rw [if_neg e2, if_neg e2]; conv => rhs; unfold find
        rw [if_neg (by rw [e]; exact fun h => e2 h.symm)]
    · rw [if_pos (by simp [e])]
      conv => lhs; unfold find
      rw [ih]
      by_cases e2 : k = n
      · subst e2; simp [e]
      · rw [if_neg e2, if_neg e2]; conv => rhs; unfold find
theorem mem_wo {l : Nm} {n : Tx} {p : Tx × Nat} : p ∈ wo l n ↔ p ∈ l ∧ p.1 ≠ n := by simp [wo]
theorem mem_insF {n : Tx} {f : Nat} {p : Tx × Nat} : ∀ {l : Nm}, p ∈ insF n f l ↔ p = (n, f) ∨ p ∈ l
  | [] => by simp [insF]
  | q :: r => by
    unfold insF
    split
    · simp
    · rw [List.mem_cons, mem_insF, List.mem_cons]
      exact ⟨fun h => h.elim (fun e => .inr (.inl e)) (fun h => h.elim .inl (fun h => .inr (.inr h))), fun h => h.elim (fun e => .inr (.inl e)) (fun h => h.elim .inl (fun h => .inr (.inr h)))⟩
theorem find_insF {n : Tx} {f : Nat} {k : Tx} : ∀ {l : Nm}, find l n = none → find (insF n f l) k = if k = n then some f else find l k
  | [], _ => by
    by_cases e : k = n
    · subst e; simp [insF, find]
    · simp [insF, find, e]; exact fun h => e h.symm
  | p :: r, h => by
    unfold find at h
    split at h
    · cases h
    next hp =>
    unfold insF
    split
    · conv => lhs; unfold find
      by_cases e : k = n
      · rw [if_pos e.symm, if_pos e]
      · rw [if_neg (fun h => e h.symm), if_neg e]
    · conv => lhs; unfold find
      rw [find_insF h]
      by_cases e : k = n
      · rw [if_pos e, if_neg (by rw [e]; exact hp), if_pos e]
      · rw [if_neg e, if_neg e]; conv => rhs; unfold find
theorem find_wi (l : Nm) (n k : Tx) (f : Nat) : find (wi l n f) k = if k = n then some f else find l k := by
  unfold wi
  rw [find_insF (by rw [find_wo]; simp), find_wo]
  by_cases e : k = n <;> simp [e]
theorem ris_wo {l : Nm} (h : RisN l) (n : Tx) : RisN (wo l n) := List.Pairwise.filter _ h
theorem ris_insF {n : Tx} {f : Nat} : ∀ {l : Nm}, RisN l → (∀ p ∈ l, p.1 ≠ n) → RisN (insF n f l)
  | [], _, _ => by simp [insF, RisN]
  | p :: r, h, hn => by
    have h1 := List.pairwise_cons.1 h
    unfold insF
    split
    next hlt =>
      refine List.pairwise_cons.2 ⟨fun q hq => ?_, h⟩
      rcases List.mem_cons.1 hq with rfl | hq
      · exact hlt
      · exact ltT hlt (h1.1 q hq)
    next hlt =>
      have hpn : p.1 < n := (tri p.1 n).elim id fun h => h.elim (fun e => absurd e (hn p (by simp))) (fun h => absurd h hlt)
      refine List.pairwise_cons.2 ⟨fun q hq => ?_, ris_insF h1.2 fun q hq => hn q (by simp [hq])⟩
      rcases mem_insF.1 hq with rfl | hq
      · exact hpn
      · exact h1.1 q hq
theorem ris_wi {l : Nm} (h : RisN l) (n : Tx) (f : Nat) : RisN (wi l n f) := ris_insF (ris_wo h n) fun p hp => (mem_wo.1 hp).2
theorem len_insF (n : Tx) (f : Nat) : ∀ l : Nm, (insF n f l).length = l.length + 1
  | [] => rfl
  | p :: r => by unfold insF; split <;> simp [len_insF n f r]
theorem snd_insF {n : Tx} {f : Nat} : ∀ {l : Nm}, ((insF n f l).map (·.2)).Perm (f :: l.map (·.2))
  | [] => by simp [insF]
  | p :: r => by
    unfold insF
    split
    · simp
    · rw [List.map_cons, List.map_cons]
      exact (List.Perm.cons _ (snd_insF (l := r))).trans (List.Perm.swap _ _ _)
theorem inj_wo {l : Nm} (h : (l.map (·.2)).Nodup) (n : Tx) : ((wo l n).map (·.2)).Nodup := (List.Sublist.map _ List.filter_sublist).nodup h
theorem inj_wi {l : Nm} (h : (l.map (·.2)).Nodup) {n : Tx} {f : Nat} (hf : f ∉ (wo l n).map (·.2)) : ((wi l n f).map (·.2)).Nodup := by
  unfold wi
  rw [snd_insF.nodup_iff, List.nodup_cons]
  exact ⟨hf, inj_wo h n⟩
/-- How the names' number changes. -/
theorem len_wo {l : Nm} (h : RisN l) (n : Tx) : (wo l n).length = if (find l n).isSome then l.length - 1 else l.length := by
  induction l with
  | nil => simp [wo, find]
  | cons p r ih =>
    have h1 := List.pairwise_cons.1 h
    have ih := ih h1.2
    unfold wo at ih ⊢
    rw [List.filter_cons]
    unfold find
    by_cases e : p.1 = n
    · rw [if_neg (by simp [e]), if_pos e]
      have hnone : find r n = none := by
        cases hf : find r n with
        | none => rfl
        | some f => exact absurd (h1.1 _ (find_mem hf)) (by simp only; rw [e]; exact ltI n)
      rw [ih, hnone]; simp
    · rw [if_pos (by simp [e]), if_neg e, List.length_cons, ih]
      by_cases hs : (find r n).isSome
      · have : 0 < r.length := by
          obtain ⟨f, hf⟩ := Option.isSome_iff_exists.1 hs
          exact List.length_pos_of_mem (find_mem hf)
        rw [if_pos hs, if_pos hs]; simp; omega
      · rw [if_neg hs, if_neg hs]; simp
theorem len_wi {l : Nm} (h : RisN l) (n : Tx) (f : Nat) : (wi l n f).length = if (find l n).isSome then l.length else l.length + 1 := by
  unfold wi
  rw [len_insF, len_wo h]
  by_cases hs : (find l n).isSome
  · have : 0 < l.length := by
      obtain ⟨f, hf⟩ := Option.isSome_iff_exists.1 hs
      exact List.length_pos_of_mem (find_mem hf)
    rw [if_pos hs, if_pos hs]; omega
  · rw [if_neg hs, if_neg hs]
theorem inj_two : ∀ {l : Nm}, (l.map (·.2)).Nodup → ∀ {p q : Tx × Nat}, p ∈ l → q ∈ l → p.2 = q.2 → p = q
  | [], _, p, q, hp, _, _ => by simp at hp
  | x :: r, h, p, q, hp, hq, e => by
    have h1 := List.nodup_cons.1 h
    have hm : ∀ y ∈ r, y.2 ≠ x.2 := fun y hy e => h1.1 (List.mem_map.2 ⟨y, hy, e⟩)
    rcases List.mem_cons.1 hp with hp1 | hp1
    · rcases List.mem_cons.1 hq with hq1 | hq1
      · rw [hp1, hq1]
      · exact absurd (by rw [← e, hp1]) (hm q hq1)
    · rcases List.mem_cons.1 hq with hq1 | hq1
      · exact absurd (by rw [e, hq1]) (hm p hp1)
      · exact inj_two h1.2 hp1 hq1 e
/-- A change that may be made here. -/
def okc (N : Nat) (l : Nm) (c : Ch) : Prop := (c.kind = 1 ∧ c.file < N ∧ c.src ≠ [] ∧ c.file ∉ l.map (·.2)) ∨ (c.kind = 2 ∧ find l c.src = some c.file ∧ c.dst ≠ [] ∧ c.src ≠ c.dst) ∨ (c.kind = 3 ∧ c.dst = [])
def Sound (N : Nat) : Nm → List Ch → Prop
  | _, [] => True
  | l, c :: cs => okc N l c ∧ Sound N (change l c) cs
structure Good (N : Nat) (l : Nm) : Prop where
  ris : RisN l
  inj : (l.map (·.2)).Nodup
  lt : ∀ p ∈ l, p.2 < N
theorem Good.change {N : Nat} {l : Nm} (h : Good N l) {c : Ch} (hc : okc N l c) : Good N (change l c) := by
  unfold Pl.change
  rcases hc with ⟨e, h1, h2, h3⟩ | ⟨e, h1, h2, h4⟩ | ⟨e, -⟩
  · rw [if_pos e]
    refine ⟨ris_wi h.ris _ _, inj_wi h.inj fun hm => ?_, fun p hp => ?_⟩
    · obtain ⟨q, hq, e2⟩ := List.mem_map.1 hm
      exact h3 (List.mem_map.2 ⟨q, (mem_wo.1 hq).1, e2⟩)
    · rcases mem_insF.1 hp with rfl | hp
      · exact h1
      · exact h.lt p (mem_wo.1 hp).1
  · rw [if_neg (by omega), if_pos e]
    have hg := find_mem h1
    refine ⟨ris_wi (ris_wo h.ris _) _ _, inj_wi (inj_wo h.inj _) fun hm => ?_, fun p hp => ?_⟩
    · obtain ⟨q, hq, e2⟩ := List.mem_map.1 hm
      have hq1 := (mem_wo.1 hq).1
      have hq2 := mem_wo.1 hq1
      -- two names of one file
      have : q = (c.src, c.file) := inj_two h.inj hq2.1 hg e2
      rw [this] at hq2
      exact hq2.2 rfl
    · rcases mem_insF.1 hp with rfl | hp
      · exact h.lt (c.src, c.file) hg
      · exact h.lt p (mem_wo.1 (mem_wo.1 hp).1).1
  · rw [if_neg (by omega), if_neg (by omega)]
    exact ⟨ris_wo h.ris _, inj_wo h.inj _, fun p hp => h.lt p (mem_wo.1 hp).1⟩
theorem Sound.mono {N M : Nat} (hN : N ≤ M) : ∀ {cs : List Ch} {l : Nm}, Sound N l cs → Sound M l cs
  | [], _, _ => trivial
  | c :: cs, l, h => ⟨by rcases h.1 with ⟨e, h1, h2⟩ | h1 | h1; exact .inl ⟨e, by omega, h2⟩; exact .inr (.inl h1); exact .inr (.inr h1), h.2.mono hN⟩
theorem Sound.snoc {N : Nat} : ∀ {cs : List Ch} {l : Nm} {c : Ch}, Sound N l cs → okc N (cs.foldl change l) c → Sound N l (cs ++ [c])
  | [], _, _, _, h => ⟨h, trivial⟩
  | d :: cs, l, c, hs, h => ⟨hs.1, hs.2.snoc h⟩
theorem Sound.good {N : Nat} : ∀ {cs : List Ch} {l : Nm}, Good N l → Sound N l cs → ∀ i, Good N ((cs.take i).foldl change l)
  | [], l, h, _, i => by simpa using h
  | c :: cs, l, h, hs, 0 => by simpa using h
  | c :: cs, l, h, hs, i + 1 => by
    rw [List.take_succ_cons, List.foldl_cons]
    exact Sound.good (h.change hs.1) hs.2 i
theorem Sound.at {N : Nat} : ∀ {cs : List Ch} {l : Nm}, Sound N l cs → ∀ {i : Nat} {c : Ch}, cs[i]? = some c → okc N ((cs.take i).foldl change l) c
  | [], _, _, i, c, h => by simp at h
  | d :: cs, l, hs, 0, c, h => by simp at h; subst h; exact hs.1
  | d :: cs, l, hs, i + 1, c, h => by
    rw [List.take_succ_cons, List.foldl_cons]
    exact Sound.at hs.2 (by simpa using h)
theorem Sound.files {N : Nat} : ∀ {cs : List Ch} {l : Nm}, Sound N l cs → ∀ c ∈ cs, c.kind = 1 → c.file < N
  | [], _, _, c, h, _ => by simp at h
  | d :: cs, l, hs, c, h, hk => by
    rcases List.mem_cons.1 h with rfl | h
    · rcases hs.1 with ⟨_, h1, _⟩ | ⟨e, _⟩ | ⟨e, _⟩
      · exact h1
      · omega
      · omega
    · exact Sound.files hs.2 c h hk
/-- No more names than files. -/
theorem nodup_lt : ∀ (N : Nat) (l : List Nat), l.Nodup → (∀ x ∈ l, x < N) → l.length ≤ N
  | 0, l, _, h => by
    cases l with
    | nil => simp
    | cons x r => exact absurd (h x (by simp)) (by omega)
  | N + 1, l, hn, h => by
    have h2 := nodup_lt N (l.filter fun x => decide (x ≠ N)) (List.Pairwise.filter _ hn) fun x hx => by
      have := List.mem_filter.1 hx
      have h3 := h x this.1
      have : x ≠ N := by simpa using this.2
      omega
    have h3 : ∀ m : List Nat, m.Nodup → m.length ≤ (m.filter fun x => decide (x ≠ N)).length + 1 := by
      intro m
      induction m with
      | nil => simp
      | cons x r ih =>
        intro hm
        have h1 := List.nodup_cons.1 hm
        rw [List.filter_cons]
        by_cases e : x = N
        · rw [if_neg (by simp [e])]
          have : (r.filter fun x => decide (x ≠ N)) = r := List.filter_eq_self.2 fun y hy => by
            simp only [decide_eq_true_eq]; intro e2; exact h1.1 (by rw [e, ← e2]; exact hy)
          rw [this]; simp
        · rw [if_pos (by simp [e])]
          have := ih h1.2
          simp only [List.length_cons]; omega
    have := h3 l hn
    omega
theorem Good.few {N : Nat} {l : Nm} (h : Good N l) : l.length ≤ N := by
  have := nodup_lt N (l.map (·.2)) h.inj fun x hx => by
    obtain ⟨p, hp, rfl⟩ := List.mem_map.1 hx
    exact h.lt p hp
  simpa using this
/-- The disk: all files that ever were, the names, the lasting ones, the open changes, the plan. -/
structure Dk where
  files : List Fl
  names : Nm
  last : Nm
  opn : List Ch
  plan : List (Int × Int × Int)
  steps : Nat
  down : Bool
def Dk.new : Dk := ⟨[], [], [], [], [], 0, false⟩
def Dk.hit (S : Dk) : Option (Int × Int × Int) := S.plan.find? fun p => decide (p.1 = (S.steps : Int) + 1)
def Dk.faultE (S : Dk) : Nat := match S.hit with
  | none => 0
  | some p => if p.2.1 = 3 then 53 else 52
def Dk.faultN (S : Dk) : Int := match S.hit with
  | none => 0
  | some p => if p.2.1 = 2 then p.2.2 else 0
def Dk.faultS (S : Dk) : Dk := { S with steps := S.steps + 1, down := S.down || match S.hit with
  | none => false
  | some p => decide (p.2.1 = 3) }
def Dk.askE (S : Dk) (n : Tx) : Nat := if S.down = true then 53 else if n = [] then 1 else match find S.names n with
  | none => 50
  | some _ => 0
def Dk.turn (S : Dk) (c : Ch) : Dk := { S with names := change S.names c, opn := S.opn ++ [c] }
def Dk.createE (S : Dk) (n : Tx) : Nat := if S.askE n = 0 then 51 else if S.askE n ≠ 50 then S.askE n else S.faultE
def Dk.createS (S : Dk) (n : Tx) : Dk := if S.askE n ≠ 50 then S else if S.faultE ≠ 0 then S.faultS else Dk.turn { S.faultS with files := S.files ++ [⟨[], 0⟩] } ⟨1, n, [], S.files.length⟩
def Dk.setF (S : Dk) (f : Nat) (g : Fl → Fl) : Dk := { S with files := S.files.modify f g }
def Dk.fileOf (S : Dk) (n : Tx) : Nat := (find S.names n).getD 0
/-- How many bytes an Append lays. -/
def Dk.laid (S : Dk) (s : Tx) : Nat := if S.faultE = 0 then s.length else if (s.length : Int) < S.faultN then s.length else S.faultN.toNat
def Dk.appendE (S : Dk) (n : Tx) : Nat := if S.askE n ≠ 0 then S.askE n else S.faultE
def Dk.appendN (S : Dk) (n s : Tx) : Nat := if S.askE n ≠ 0 then 0 else S.laid s
def Dk.appendS (S : Dk) (n s : Tx) : Dk := if S.askE n ≠ 0 then S else S.faultS.setF (S.fileOf n) fun f => ⟨f.text ++ s.take (S.laid s), f.sync⟩
def Dk.truncS (S : Dk) (n : Tx) (k : Int) : Dk := if S.askE n ≠ 0 then S else if S.faultE ≠ 0 then S.faultS else S.faultS.setF (S.fileOf n) fun f => ⟨f.text.take k.toNat, min f.sync k.toNat⟩
def Dk.syncS (S : Dk) (n : Tx) : Dk := if S.askE n ≠ 0 then S else if S.faultE ≠ 0 then S.faultS else S.faultS.setF (S.fileOf n) fun f => ⟨f.text, f.text.length⟩
def Dk.renameE (S : Dk) (a b : Tx) : Nat := if S.down = true then 53 else if b = [] then 1 else S.appendE a
def Dk.renameS (S : Dk) (a b : Tx) : Dk := if b = [] ∨ S.askE a ≠ 0 then S else if S.faultE ≠ 0 ∨ a = b then S.faultS else S.faultS.turn ⟨2, a, b, S.fileOf a⟩
def Dk.removeS (S : Dk) (a : Tx) : Dk := if S.askE a ≠ 0 then S else if S.faultE ≠ 0 then S.faultS else S.faultS.turn ⟨3, a, [], 0⟩
def Dk.namesE (S : Dk) : Nat := if S.down = true then 53 else S.faultE
def Dk.namesS (S : Dk) : Dk := if S.down = true then S else if S.faultE ≠ 0 then S.faultS else { S.faultS with last := S.names, opn := [] }
/-- What is read of a name. -/
def Dk.readT (S : Dk) (n : Tx) : Tx := if S.askE n = 0 then match S.files[S.fileOf n]? with
  | some f => f.text
  | none => [] else []
def Dk.readN (S : Dk) (n : Tx) : Nat := if S.askE n = 0 then match S.files[S.fileOf n]? with
  | some f => f.sync
  | none => 0 else 0
/-- May these faults be planned behind a step? -/
def planOk : Int → List (Int × Int × Int) → Bool
  | _, [] => true
  | last, p :: r => decide (last < p.1 ∧ 1 ≤ p.2.1 ∧ p.2.1 ≤ 3 ∧ 0 ≤ p.2.2 ∧ (p.2.2 ≤ 0 ∨ p.2.1 = 2)) && planOk p.1 r
def Dk.planE (S : Dk) (l : List (Int × Int × Int)) : Nat := if l.length ≤ 1024 ∧ planOk S.steps l = true then 0 else 54
def Dk.planS (S : Dk) (l : List (Int × Int × Int)) : Dk := if l.length ≤ 1024 ∧ planOk S.steps l = true then { S with plan := l } else S
/-- How many bytes more a crash leaves of the i-th file. -/
def more (bs : List Int) (i : Nat) (f : Fl) : Nat := min (if bs = [] then 0 else (bs.getD (i % bs.length) 0).toNat) (f.text.length - f.sync)
def cut (bs : List Int) (i : Nat) (f : Fl) : Fl := ⟨f.text.take (f.sync + more bs i f), f.sync + more bs i f⟩
def cutAll (bs : List Int) : Nm → Nat → List Fl → List Fl
  | [], _, fs => fs
  | p :: r, i, fs => cutAll bs r (i + 1) (fs.modify p.2 (cut bs i))
def Dk.left (S : Dk) (k : Int) : Nm := (S.opn.take k.toNat).foldl change S.last
def Dk.crashS (S : Dk) (k : Int) (bs : List Int) : Dk := ⟨cutAll bs (S.left k) 0 S.files, S.left k, S.left k, [], [], S.steps, false⟩
/-- What holds of every disk. -/
structure Dk.Inv (S : Dk) : Prop where
  last : Good S.files.length S.last
  snd : Sound S.files.length S.last S.opn
  names : S.names = S.opn.foldl change S.last
  plan : ∀ p ∈ S.plan, 1 ≤ p.2.1 ∧ p.2.1 ≤ 3 ∧ 0 ≤ p.2.2
  sync : ∀ f ∈ S.files, f.sync ≤ f.text.length
theorem Dk.Inv.good {S : Dk} (h : S.Inv) : Good S.files.length S.names := by
  have := h.snd.good h.last S.opn.length
  rw [List.take_length] at this
  rw [h.names]; exact this
theorem Dk.Inv.left {S : Dk} (h : S.Inv) (k : Int) : Good S.files.length (S.left k) := h.snd.good h.last _
theorem Dk.Inv.new : Dk.new.Inv := ⟨⟨List.Pairwise.nil, List.Pairwise.nil, fun p h => by simp [Dk.new] at h⟩, trivial, rfl, fun p h => by simp [Dk.new] at h, fun p h => by simp [Dk.new] at h⟩
theorem Dk.Inv.fault {S : Dk} (h : S.Inv) : S.faultS.Inv := ⟨h.last, h.snd, h.names, h.plan, h.sync⟩
theorem Dk.Inv.turn {S : Dk} (h : S.Inv) {c : Ch} (hc : okc S.files.length S.names c) : (S.turn c).Inv :=
  ⟨h.last, h.snd.snoc (by rw [← h.names]; exact hc), by show change S.names c = _; rw [Dk.turn, List.foldl_append, ← h.names]; rfl, h.plan, h.sync⟩
theorem mem_modify {α : Type} {g : α → α} : ∀ {l : List α} {k : Nat} {x : α}, x ∈ l.modify k g → x ∈ l ∨ ∃ y ∈ l, x = g y
  | [], k, x, h => by simp at h
  | a :: r, 0, x, h => by
    rw [List.modify_zero_cons] at h
    rcases List.mem_cons.1 h with rfl | h
    · exact .inr ⟨a, by simp, rfl⟩
    · exact .inl (by simp [h])
  | a :: r, k + 1, x, h => by
    rw [List.modify_succ_cons] at h
    rcases List.mem_cons.1 h with rfl | h
    · exact .inl (by simp)
    · rcases mem_modify h with h | ⟨y, hy, e⟩
      · exact .inl (by simp [h])
      · exact .inr ⟨y, by simp [hy], e⟩
theorem Dk.Inv.setF {S : Dk} (h : S.Inv) {f : Nat} {g : Fl → Fl} (hg : ∀ x ∈ S.files, (g x).sync ≤ (g x).text.length) : (S.setF f g).Inv := by
  have hl : (S.setF f g).files.length = S.files.length := by simp [Dk.setF]
  refine ⟨by rw [hl]; exact h.last, by rw [hl]; exact h.snd, h.names, h.plan, fun x hx => ?_⟩
  rcases mem_modify hx with hx | ⟨y, hy, rfl⟩
  · exact h.sync x hx
  · exact hg y hy
theorem cutAll_length (bs : List Int) : ∀ (l : Nm) (i : Nat) (fs : List Fl), (cutAll bs l i fs).length = fs.length
  | [], _, _ => rfl
  | p :: r, i, fs => by unfold cutAll; rw [cutAll_length bs r]; simp
theorem cut_sync (bs : List Int) (i : Nat) {f : Fl} (h : f.sync ≤ f.text.length) : (cut bs i f).sync = (cut bs i f).text.length := by
  simp only [cut, more, List.length_take]; omega
theorem cutAll_sync (bs : List Int) : ∀ (l : Nm) (i : Nat) (fs : List Fl), (∀ f ∈ fs, f.sync ≤ f.text.length) → ∀ f ∈ cutAll bs l i fs, f.sync ≤ f.text.length
  | [], _, _, h => h
  | p :: r, i, fs, h => by
    unfold cutAll
    refine cutAll_sync bs r (i + 1) _ fun f hf => ?_
    rcases mem_modify hf with hf | ⟨y, hy, rfl⟩
    · exact h f hf
    · rw [cut_sync bs i (h y hy)]; exact Nat.le_refl _
theorem Dk.Inv.crash {S : Dk} (h : S.Inv) (k : Int) (bs : List Int) : (S.crashS k bs).Inv :=
  ⟨by show Good (cutAll _ _ _ _).length _; rw [cutAll_length]; exact h.left k, trivial, rfl, fun p hp => by simp [Dk.crashS] at hp, cutAll_sync bs _ _ _ h.sync⟩
theorem askE_ok {S : Dk} {n : Tx} (h : S.askE n = 0) : S.down = false ∧ n ≠ [] ∧ find S.names n = some (S.fileOf n) := by
  unfold Dk.askE at h
  split at h
  · cases h
  next hd =>
  split at h
  · cases h
  next hn =>
  refine ⟨by simpa using hd, hn, ?_⟩
  unfold Dk.fileOf
  split at h
  · cases h
  next f hf => rw [hf]; rfl
theorem askE_new {S : Dk} {n : Tx} (h : S.askE n = 50) : S.down = false ∧ n ≠ [] ∧ find S.names n = none := by
  unfold Dk.askE at h
  split at h
  · cases h
  next hd =>
  split at h
  · cases h
  next hn =>
  refine ⟨by simpa using hd, hn, ?_⟩
  split at h
  next hf => exact hf
  · cases h
theorem Dk.Inv.fileLt {S : Dk} (h : S.Inv) {n : Tx} (ha : S.askE n = 0) : S.fileOf n < S.files.length := h.good.lt _ (find_mem (askE_ok ha).2.2)
theorem Dk.Inv.create {S : Dk} (h : S.Inv) (n : Tx) : (S.createS n).Inv := by
  unfold Dk.createS
  split
  · exact h
  next ha =>
  split
  · exact h.fault
  · obtain ⟨-, hn, hf⟩ := askE_new (S := S) (n := n) (by simpa using ha)
    refine Dk.Inv.turn (S := { S.faultS with files := S.files ++ [⟨[], 0⟩] }) ?_ ?_
    · refine ⟨?_, ?_, h.names, h.plan, fun f hf => ?_⟩
      · have := h.last
        exact ⟨this.ris, this.inj, fun p hp => by have := this.lt p hp; simp; omega⟩
      · exact h.snd.mono (by simp)
      · rcases List.mem_append.1 hf with hf | hf
        · exact h.sync f hf
        · rw [List.mem_singleton.1 hf]; exact Nat.le_refl _
    · refine .inl ⟨rfl, by simp, hn, fun hm => ?_⟩
      obtain ⟨p, hp, e⟩ := List.mem_map.1 hm
      have := h.good.lt p hp
      simp only at e; omega
theorem Dk.Inv.append {S : Dk} (h : S.Inv) (n s : Tx) : (S.appendS n s).Inv := by
  unfold Dk.appendS
  split
  · exact h
  · exact h.fault.setF fun x hx => by have := h.sync x hx; simp only [List.length_append]; omega
theorem Dk.Inv.trunc {S : Dk} (h : S.Inv) (n : Tx) (k : Int) : (S.truncS n k).Inv := by
  unfold Dk.truncS
  split
  · exact h
  split
  · exact h.fault
  · exact h.fault.setF fun x hx => by have := h.sync x hx; simp only [List.length_take]; omega
theorem Dk.Inv.syn {S : Dk} (h : S.Inv) (n : Tx) : (S.syncS n).Inv := by
  unfold Dk.syncS
  split
  · exact h
  split
  · exact h.fault
  · exact h.fault.setF fun x hx => Nat.le_refl _
theorem Dk.Inv.rename {S : Dk} (h : S.Inv) (a b : Tx) : (S.renameS a b).Inv := by
  unfold Dk.renameS
  split
  · exact h
  next h1 =>
  split
  · exact h.fault
  next h2 =>
  have ha : S.askE a = 0 := Classical.byContradiction fun hx => h1 (.inr hx)
  exact h.fault.turn (.inr (.inl ⟨rfl, (askE_ok ha).2.2, fun hb => h1 (.inl hb), fun hb => h2 (.inr hb)⟩))
theorem Dk.Inv.remove {S : Dk} (h : S.Inv) (a : Tx) : (S.removeS a).Inv := by
  unfold Dk.removeS
  split
  · exact h
  split
  · exact h.fault
  · exact h.fault.turn (.inr (.inr ⟨rfl, rfl⟩))
theorem Dk.Inv.syncNames {S : Dk} (h : S.Inv) : S.namesS.Inv := by
  unfold Dk.namesS
  split
  · exact h
  split
  · exact h.fault
  · exact ⟨h.good, trivial, rfl, h.plan, h.sync⟩
theorem planOk_all : ∀ {l : List (Int × Int × Int)} {k : Int}, planOk k l = true → ∀ p ∈ l, 1 ≤ p.2.1 ∧ p.2.1 ≤ 3 ∧ 0 ≤ p.2.2
  | [], _, _, p, hp => by simp at hp
  | q :: r, k, h, p, hp => by
    unfold planOk at h
    rw [Bool.and_eq_true, decide_eq_true_eq] at h
    rcases List.mem_cons.1 hp with rfl | hp
    · exact ⟨h.1.2.1, h.1.2.2.1, h.1.2.2.2.1⟩
    · exact planOk_all h.2 p hp
theorem Dk.Inv.set {S : Dk} (h : S.Inv) (l : List (Int × Int × Int)) : (S.planS l).Inv := by
  unfold Dk.planS
  split
  next hp => exact ⟨h.last, h.snd, h.names, planOk_all hp.2, h.sync⟩
  · exact h
def Short (l : Nm) : Prop := ∀ p ∈ l, p.1.length ≤ 140737488355328
def ShortC (c : Ch) : Prop := c.src.length ≤ 140737488355328 ∧ c.dst.length ≤ 140737488355328
theorem Short.wo {l : Nm} (h : Short l) (n : Tx) : Short (wo l n) := fun p hp => h p (mem_wo.1 hp).1
theorem Short.wi {l : Nm} (h : Short l) {n : Tx} (hn : n.length ≤ 140737488355328) (f : Nat) : Short (wi l n f) := fun p hp => by
  rcases mem_insF.1 hp with rfl | hp
  · exact hn
  · exact h p (mem_wo.1 hp).1
theorem Short.change {l : Nm} (h : Short l) {c : Ch} (hc : ShortC c) : Short (change l c) := by
  unfold Pl.change
  split
  · exact h.wi hc.1 _
  split
  · exact (h.wo _).wi hc.2 _
  · exact h.wo _
theorem Short.all : ∀ {cs : List Ch} {l : Nm}, Short l → (∀ c ∈ cs, ShortC c) → Short (cs.foldl Pl.change l)
  | [], _, h, _ => h
  | c :: cs, l, h, hc => Short.all (cs := cs) (l := Pl.change l c) (h.change (hc c (by simp))) fun d hd => hc d (by simp [hd])
/-- Nothing is too great. -/
structure Dk.Small (j : Nat) (S : Dk) : Prop where
  files : S.files.length ≤ j
  opn : S.opn.length ≤ j
  steps : S.steps ≤ j
  texts : ∀ f ∈ S.files, f.text.length ≤ j * 140737488355328
  plan : S.plan.length ≤ 1024
  nms : Short S.names
  lst : Short S.last
  chs : ∀ c ∈ S.opn, ShortC c
theorem Dk.Small.new : Dk.new.Small 0 := ⟨Nat.le_refl _, Nat.le_refl _, Nat.le_refl _, fun f h => by simp [Dk.new] at h, by simp [Dk.new], fun f h => by simp [Dk.new] at h, fun f h => by simp [Dk.new] at h, fun f h => by simp [Dk.new] at h⟩
theorem Dk.Small.mono {j i : Nat} {S : Dk} (h : S.Small j) (hi : j ≤ i) : S.Small i :=
  { h with files := Nat.le_trans h.files hi, opn := Nat.le_trans h.opn hi, steps := Nat.le_trans h.steps hi, texts := fun f hf => Nat.le_trans (h.texts f hf) (Nat.mul_le_mul_right _ hi) }
theorem Dk.Small.fault {j : Nat} {S : Dk} (h : S.Small j) : S.faultS.Small (j + 1) :=
  ⟨Nat.le_succ_of_le h.files, Nat.le_succ_of_le h.opn, Nat.succ_le_succ h.steps, (h.mono (Nat.le_succ j)).texts, h.plan, h.nms, h.lst, h.chs⟩
theorem Dk.Small.setF {j : Nat} {S : Dk} (h : S.Small j) {f : Nat} {g : Fl → Fl} (hg : ∀ x ∈ S.files, (g x).text.length ≤ j * 140737488355328) : (S.setF f g).Small j :=
  ⟨by simp [Dk.setF]; exact h.files, h.opn, h.steps, fun x hx => by
    rcases mem_modify hx with hx | ⟨y, hy, rfl⟩
    · exact h.texts x hx
    · exact hg y hy, h.plan, h.nms, h.lst, h.chs⟩
theorem Dk.Small.turn {j : Nat} {S : Dk} (h : S.Small j) (c : Ch) (hc : ShortC c) (h2 : S.opn.length + 1 ≤ j) : (S.turn c).Small j :=
  ⟨h.files, by simp [Dk.turn]; exact h2, h.steps, h.texts, h.plan, h.nms.change hc, h.lst, fun d hd => by
    rcases List.mem_append.1 hd with hd | hd
    · exact h.chs d hd
    · rw [List.mem_singleton.1 hd]; exact hc⟩
theorem Dk.Small.create {j : Nat} {S : Dk} (h : S.Small j) {n : Tx} (hn : n.length ≤ 140737488355328) : (S.createS n).Small (j + 1) := by
  unfold Dk.createS
  split
  · exact h.mono (by omega)
  split
  · exact h.fault
  · have := h.files
    refine Dk.Small.turn (S := { S.faultS with files := S.files ++ [⟨[], 0⟩] }) ?_ _ ⟨hn, by simp⟩ (Nat.succ_le_succ h.opn)
    refine ⟨by simp; omega, h.fault.opn, h.fault.steps, fun f hf => ?_, h.plan, h.nms, h.lst, h.chs⟩
    rcases List.mem_append.1 hf with hf | hf
    · exact h.fault.texts f hf
    · rw [List.mem_singleton.1 hf]; simp
theorem Dk.Small.append {j : Nat} {S : Dk} (h : S.Small j) (n : Tx) {s : Tx} (hs : s.length ≤ 140737488355328) : (S.appendS n s).Small (j + 1) := by
  unfold Dk.appendS
  split
  · exact h.mono (by omega)
  · exact h.fault.setF fun x hx => by have := h.texts x hx; simp only [List.length_append, List.length_take]; omega
theorem Dk.Small.trunc {j : Nat} {S : Dk} (h : S.Small j) (n : Tx) (k : Int) : (S.truncS n k).Small (j + 1) := by
  unfold Dk.truncS
  split
  · exact h.mono (by omega)
  split
  · exact h.fault
  · exact h.fault.setF fun x hx => by have := h.fault.texts x hx; simp only [List.length_take]; omega
theorem Dk.Small.syn {j : Nat} {S : Dk} (h : S.Small j) (n : Tx) : (S.syncS n).Small (j + 1) := by
  unfold Dk.syncS
  split
  · exact h.mono (by omega)
  split
  · exact h.fault
  · exact h.fault.setF fun x hx => h.fault.texts x hx
theorem Dk.Small.rename {j : Nat} {S : Dk} (h : S.Small j) {a b : Tx} (ha : a.length ≤ 140737488355328) (hb : b.length ≤ 140737488355328) : (S.renameS a b).Small (j + 1) := by
  unfold Dk.renameS
  split
  · exact h.mono (by omega)
  split
  · exact h.fault
  · exact h.fault.turn _ ⟨ha, hb⟩ (Nat.succ_le_succ h.opn)
theorem Dk.Small.remove {j : Nat} {S : Dk} (h : S.Small j) {a : Tx} (ha : a.length ≤ 140737488355328) : (S.removeS a).Small (j + 1) := by
  unfold Dk.removeS
  split
  · exact h.mono (by omega)
  split
  · exact h.fault
  · exact h.fault.turn _ ⟨ha, by simp⟩ (Nat.succ_le_succ h.opn)
theorem Dk.Small.syncNames {j : Nat} {S : Dk} (h : S.Small j) : S.namesS.Small (j + 1) := by
  unfold Dk.namesS
  split
  · exact h.mono (by omega)
  split
  · exact h.fault
  · exact ⟨h.fault.files, by simp, h.fault.steps, h.fault.texts, h.plan, h.nms, h.nms, fun c hc => by simp at hc⟩
theorem Dk.Small.set {j : Nat} {S : Dk} (h : S.Small j) (l : List (Int × Int × Int)) : (S.planS l).Small j := by
  unfold Dk.planS
  split
  next hp => exact ⟨h.files, h.opn, h.steps, h.texts, hp.1, h.nms, h.lst, h.chs⟩
  · exact h
theorem cutAll_texts (bs : List Int) (M : Nat) : ∀ (l : Nm) (i : Nat) (fs : List Fl), (∀ f ∈ fs, f.text.length ≤ M) → ∀ f ∈ cutAll bs l i fs, f.text.length ≤ M
  | [], _, _, h => h
  | p :: r, i, fs, h => by
    unfold cutAll
    refine cutAll_texts bs M r (i + 1) _ fun f hf => ?_
    rcases mem_modify hf with hf | ⟨y, hy, rfl⟩
    · exact h f hf
    · have := h y hy; simp only [cut, List.length_take]; omega
theorem Dk.Small.left {j : Nat} {S : Dk} (h : S.Small j) (k : Int) : Short (S.left k) := h.lst.all fun c hc => h.chs c (List.mem_of_mem_take hc)
theorem Dk.Small.crash {j : Nat} {S : Dk} (h : S.Small j) (k : Int) (bs : List Int) : (S.crashS k bs).Small j :=
  ⟨by show (cutAll _ _ _ _).length ≤ j; rw [cutAll_length]; exact h.files, by simp [Dk.crashS], h.steps, cutAll_texts bs _ _ _ _ h.texts, by simp [Dk.crashS], h.left k, h.left k, fun c hc => by simp [Dk.crashS] at hc⟩
end Go.Proofs.Ytbjlffhnkcbnmaa.Pl
