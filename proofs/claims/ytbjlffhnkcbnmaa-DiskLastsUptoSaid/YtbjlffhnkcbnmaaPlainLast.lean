/- Plain: what lasts on a disk. -/
import Derived.Test.YtbjlffhnkcbnmaaPlainDisk2
namespace Go.Proofs.Ytbjlffhnkcbnmaa.Pl
set_option linter.unusedVariables false

/-- No lasting name is none. -/
def NE (S : Dk) : Prop := ∀ p ∈ S.last, p.1 ≠ []
theorem ne_change {N : Nat} {l : Nm} {c : Ch} (h : ∀ p ∈ l, p.1 ≠ []) (hc : okc N l c) : ∀ p ∈ change l c, p.1 ≠ [] := by
  unfold change
  rcases hc with ⟨e, _, h2, _⟩ | ⟨e, _, h2, _⟩ | ⟨e, _⟩
  · rw [if_pos e]
    intro p hp
    rcases mem_insF.1 hp with rfl | hp
    · exact h2
    · exact h p (mem_wo.1 hp).1
  · rw [if_neg (by omega), if_pos e]
    intro p hp
    rcases mem_insF.1 hp with rfl | hp
    · exact h2
    · exact h p (mem_wo.1 (mem_wo.1 hp).1).1
  · rw [if_neg (by omega), if_neg (by omega)]
    intro p hp
    exact h p (mem_wo.1 hp).1
theorem ne_left {N : Nat} : ∀ {cs : List Ch} {l : Nm}, (∀ p ∈ l, p.1 ≠ []) → Sound N l cs → ∀ i, ∀ p ∈ (cs.take i).foldl change l, p.1 ≠ []
  | [], l, h, _, i => by simpa using h
  | c :: cs, l, h, hs, 0 => by simpa using h
  | c :: cs, l, h, hs, i + 1 => by
    rw [List.take_succ_cons, List.foldl_cons]
    exact ne_left (ne_change h hs.1) hs.2 i
theorem NE.left {S : Dk} (h : NE S) (hI : S.Inv) (k : Int) : ∀ p ∈ S.left k, p.1 ≠ [] := ne_left h hI.snd k.toNat
theorem NE.names {S : Dk} (h : NE S) (hI : S.Inv) : ∀ p ∈ S.names, p.1 ≠ [] := by
  have := ne_left h hI.snd S.opn.length
  rw [List.take_length, ← hI.names] at this
  exact this
/-- What lies on a disk of which nothing is open: all bytes, and what was synced of them. -/
structure Laid (S : Dk) (L : Nm) (W Y : List Tx) : Prop where
  names : S.names = L
  last : S.last = L
  opn : S.opn = []
  plan : S.plan = []
  down : S.down = false
  ne : ∀ p ∈ L, p.1 ≠ []
  lenW : W.length = L.length
  lenY : Y.length = L.length
  at_ : ∀ (i : Nat) (p : Tx × Nat) (t y : Tx), L[i]? = some p → W[i]? = some t → Y[i]? = some y → S.files[p.2]? = some ⟨t, y.length⟩
theorem Laid.fault {S : Dk} {L : Nm} {W Y : List Tx} (h : Laid S L W Y) : S.hit = none ∧ S.faultE = 0 ∧ S.faultN = 0 := by
  have hh : S.hit = none := by unfold Dk.hit; rw [h.plan]; rfl
  exact ⟨hh, by unfold Dk.faultE; rw [hh], by unfold Dk.faultN; rw [hh]⟩
theorem Laid.faultS {S : Dk} {L : Nm} {W Y : List Tx} (h : Laid S L W Y) : Laid S.faultS L W Y := by
  refine ⟨h.names, h.last, h.opn, h.plan, ?_, h.ne, h.lenW, h.lenY, h.at_⟩
  show (S.down || match S.hit with | none => false | some p => decide (p.2.1 = 3)) = false
  rw [h.fault.1, h.down]; rfl
theorem Laid.ask {S : Dk} {L : Nm} {W Y : List Tx} (h : Laid S L W Y) (hI : S.Inv) {i : Nat} {p : Tx × Nat} (hp : L[i]? = some p) : S.askE p.1 = 0 ∧ S.fileOf p.1 = p.2 := by
  have hm := List.mem_of_getElem? hp
  have hf : find S.names p.1 = some p.2 := find_of_mem hI.good.ris (by rw [h.names]; exact hm)
  exact ⟨by unfold Dk.askE; rw [if_neg (by simp [h.down]), if_neg (h.ne p hm), hf], by unfold Dk.fileOf; rw [hf]; rfl⟩
theorem Laid.read {S : Dk} {L : Nm} {W Y : List Tx} (h : Laid S L W Y) (hI : S.Inv) {i : Nat} {p : Tx × Nat} {t y : Tx} (hp : L[i]? = some p) (ht : W[i]? = some t) (hy : Y[i]? = some y) : S.askE p.1 = 0 ∧ S.readT p.1 = t ∧ S.readN p.1 = y.length := by
  obtain ⟨ha, hf⟩ := h.ask hI hp
  have hfl := h.at_ i p t y hp ht hy
  exact ⟨ha, by unfold Dk.readT; rw [if_pos ha, hf, hfl], by unfold Dk.readN; rw [if_pos ha, hf, hfl]⟩
theorem inj_at : ∀ {l : Nm}, (l.map (·.2)).Nodup → ∀ {i j : Nat} {p q : Tx × Nat}, l[i]? = some p → l[j]? = some q → p.2 = q.2 → i = j
  | [], _, i, j, p, q, hp, _, _ => by simp at hp
  | x :: r, h, 0, 0, p, q, hp, hq, e => rfl
  | x :: r, h, 0, j + 1, p, q, hp, hq, e => by
    have h1 := List.nodup_cons.1 h
    simp at hp; subst hp
    exact absurd (List.mem_map.2 ⟨q, List.mem_of_getElem? (show r[j]? = some q by simpa using hq), e.symm⟩) h1.1
  | x :: r, h, i + 1, 0, p, q, hp, hq, e => by
    have h1 := List.nodup_cons.1 h
    simp at hq; subst hq
    exact absurd (List.mem_map.2 ⟨p, List.mem_of_getElem? (show r[i]? = some p by simpa using hp), e⟩) h1.1
  | x :: r, h, i + 1, j + 1, p, q, hp, hq, e => by
    have h1 := List.nodup_cons.1 h
    rw [inj_at h1.2 (show r[i]? = some p by simpa using hp) (show r[j]? = some q by simpa using hq) e]
theorem Laid.append {S : Dk} {L : Nm} {W Y : List Tx} (h : Laid S L W Y) (hI : S.Inv) {i : Nat} {p : Tx × Nat} {t : Tx} (hp : L[i]? = some p) (ht : W[i]? = some t) (B : Tx) :
    S.appendE p.1 = 0 ∧ S.appendN p.1 B = B.length ∧ Laid (S.appendS p.1 B) L (W.set i (t ++ B)) Y := by
  obtain ⟨ha, hf⟩ := h.ask hI hp
  have hl : S.laid B = B.length := by unfold Dk.laid; rw [if_pos h.fault.2.1]
  refine ⟨by unfold Dk.appendE; rw [if_neg (by omega), h.fault.2.1], by unfold Dk.appendN; rw [if_neg (by omega), hl], ?_⟩
  have hS : S.appendS p.1 B = S.faultS.setF p.2 fun f => ⟨f.text ++ B, f.sync⟩ := by unfold Dk.appendS; rw [if_neg (by omega), hf, hl, List.take_length]
  rw [hS]
  have h2 := h.faultS
  refine ⟨h2.names, h2.last, h2.opn, h2.plan, h2.down, h.ne, by rw [List.length_set]; exact h.lenW, h.lenY, fun j q u y hq hu hy => ?_⟩
  show (S.files.modify p.2 _)[q.2]? = _
  rw [List.getElem?_modify]
  have hgd := hI.good.inj
  rw [h.names] at hgd
  by_cases e : p.2 = q.2
  · obtain rfl : i = j := inj_at hgd hp hq e
    rw [hp] at hq; cases hq
    rw [h.at_ i p t y hp ht hy]
    have hi := (List.getElem?_eq_some_iff.1 ht).1
    rw [List.getElem?_set_self hi] at hu
    cases hu
    simp
  · have hij : i ≠ j := fun e2 => by subst e2; rw [hp] at hq; cases hq; exact e rfl
    rw [List.getElem?_set_ne hij] at hu
    rw [h.at_ j q u y hq hu hy]
    simp [e]
theorem Laid.sync {S : Dk} {L : Nm} {W Y : List Tx} (h : Laid S L W Y) (hI : S.Inv) {i : Nat} {p : Tx × Nat} {t : Tx} (hp : L[i]? = some p) (ht : W[i]? = some t) :
    S.appendE p.1 = 0 ∧ Laid (S.syncS p.1) L W (Y.set i t) := by
  obtain ⟨ha, hf⟩ := h.ask hI hp
  refine ⟨by unfold Dk.appendE; rw [if_neg (by omega), h.fault.2.1], ?_⟩
  have hS : S.syncS p.1 = S.faultS.setF p.2 fun f => ⟨f.text, f.text.length⟩ := by unfold Dk.syncS; rw [if_neg (by omega), if_neg (by rw [h.fault.2.1]; omega), hf]
  rw [hS]
  have h2 := h.faultS
  refine ⟨h2.names, h2.last, h2.opn, h2.plan, h2.down, h.ne, h.lenW, by rw [List.length_set]; exact h.lenY, fun j q u y hq hu hy => ?_⟩
  show (S.files.modify p.2 _)[q.2]? = _
  rw [List.getElem?_modify]
  have hgd := hI.good.inj
  rw [h.names] at hgd
  by_cases e : p.2 = q.2
  · obtain rfl : i = j := inj_at hgd hp hq e
    rw [hp] at hq; cases hq
    rw [ht] at hu; cases hu
    have hi := (List.getElem?_eq_some_iff.1 hp).1
    obtain ⟨y0, hy0⟩ : ∃ y0, Y[i]? = some y0 := ⟨_, List.getElem?_eq_getElem (by rw [h.lenY]; exact hi)⟩
    rw [h.at_ i p t y0 hp ht hy0]
    rw [List.getElem?_set_self (by rw [h.lenY]; exact hi)] at hy
    cases hy
    simp
  · have hij : i ≠ j := fun e2 => by subst e2; rw [hp] at hq; cases hq; exact e rfl
    rw [List.getElem?_set_ne hij] at hy
    rw [h.at_ j q u y hq hu hy]
    simp [e]
theorem cut_len (bs : List Int) (i : Nat) {f : Fl} (h : f.sync ≤ f.text.length) : (cut bs i f).sync = (cut bs i f).text.length ∧ f.sync ≤ (cut bs i f).text.length ∧ (cut bs i f).text.length ≤ f.text.length ∧ (cut bs i f).text = f.text.take (cut bs i f).text.length := by
  unfold cut more
  simp only [List.length_take]
  have hm : f.sync + min (if bs = [] then 0 else (bs.getD (i % bs.length) 0).toNat) (f.text.length - f.sync) ≤ f.text.length := by omega
  refine ⟨by omega, by omega, by omega, ?_⟩
  rw [Nat.min_eq_left hm]
/-- Behind any crash: what is left of each file. -/
theorem laid_crash {S : Dk} (hI : S.Inv) (hn : NE S) (k : Int) (bs : List Int) : ∃ R, Laid (S.crashS k bs) (S.left k) R R ∧ ∀ (i : Nat) (p : Tx × Nat) (f : Fl) (r : Tx), (S.left k)[i]? = some p → S.files[p.2]? = some f → R[i]? = some r → f.sync ≤ r.length ∧ r.length ≤ f.text.length ∧ r = f.text.take r.length := by
  have hg := hI.left k
  have hat : ∀ (i : Nat) (p : Tx × Nat) (f : Fl), (S.left k)[i]? = some p → S.files[p.2]? = some f → (S.crashS k bs).files[p.2]? = some (cut bs i f) := fun i p f hp hf => by
    show (cutAll bs (S.left k) 0 S.files)[p.2]? = _
    rw [cutAll_hit bs _ 0 _ hg.inj i p hp, hf, Nat.zero_add]; rfl
  have hfile : ∀ p ∈ S.left k, ∃ f, S.files[p.2]? = some f := fun p hp => ⟨_, List.getElem?_eq_getElem (hg.lt p hp)⟩
  refine ⟨(S.left k).map fun p => (((S.crashS k bs).files[p.2]?).map Fl.text).getD [], ⟨rfl, rfl, rfl, rfl, rfl, hn.left hI k, List.length_map _, List.length_map _, fun i p t y hp ht hy => ?_⟩, fun i p f r hp hf hr => ?_⟩
  · obtain ⟨f, hf⟩ := hfile p (List.mem_of_getElem? hp)
    have h1 := hat i p f hp hf
    have h2 := cut_len bs i (hI.sync f (List.mem_of_getElem? hf))
    rw [List.getElem?_map, hp] at ht hy
    simp only [Option.map_some, Option.some.injEq, h1, Option.getD_some] at ht hy
    rw [h1, ← ht, ← hy]
    congr 1
    show cut bs i f = ⟨(cut bs i f).text, (cut bs i f).text.length⟩
    rw [← h2.1]
  · have h1 := hat i p f hp hf
    have h2 := cut_len bs i (hI.sync f (List.mem_of_getElem? hf))
    rw [List.getElem?_map, hp] at hr
    simp only [Option.map_some, Option.some.injEq, h1, Option.getD_some] at hr
    rw [← hr]
    exact h2.2
theorem Laid.crash {S : Dk} {L : Nm} {W Y : List Tx} (h : Laid S L W Y) (hI : S.Inv) (k : Int) (bs : List Int) :
    ∃ R, Laid (S.crashS k bs) L R R ∧ ∀ (i : Nat) (t y r : Tx), W[i]? = some t → Y[i]? = some y → R[i]? = some r → y.length ≤ r.length ∧ r.length ≤ t.length ∧ r = t.take r.length := by
  have hne : NE S := by unfold NE; rw [h.last]; exact h.ne
  have hl : S.left k = L := by unfold Dk.left; rw [h.opn, List.take_nil, List.foldl_nil, h.last]
  obtain ⟨R, h1, h2⟩ := laid_crash hI hne k bs
  rw [hl] at h1 h2
  refine ⟨R, h1, fun i t y r ht hy hr => ?_⟩
  have hi := (List.getElem?_eq_some_iff.1 ht).1
  obtain ⟨p, hp⟩ : ∃ p, L[i]? = some p := ⟨_, List.getElem?_eq_getElem (by rw [← h.lenW]; exact hi)⟩
  exact h2 i p _ r hp (h.at_ i p t y hp ht hy) hr
theorem Laid.again {S : Dk} {L : Nm} {R : List Tx} (h : Laid S L R R) (hI : S.Inv) (k : Int) (bs : List Int) : Laid (S.crashS k bs) L R R := by
  obtain ⟨R', h1, h2⟩ := h.crash hI k bs
  have : R' = R := by
    refine List.ext_getElem? fun i => ?_
    by_cases hi : i < L.length
    · obtain ⟨r, hr⟩ : ∃ r, R[i]? = some r := ⟨_, List.getElem?_eq_getElem (by rw [h.lenW]; exact hi)⟩
      obtain ⟨r', hr'⟩ : ∃ r', R'[i]? = some r' := ⟨_, List.getElem?_eq_getElem (by rw [h1.lenW]; exact hi)⟩
      obtain ⟨a, b, c⟩ := h2 i r r r' hr hr hr'
      rw [hr, hr', c, show r'.length = r.length by omega, List.take_length]
    · rw [List.getElem?_eq_none (by rw [h1.lenW]; omega), List.getElem?_eq_none (by rw [h.lenW]; omega)]
  rw [this] at h1
  exact h1
end Go.Proofs.Ytbjlffhnkcbnmaa.Pl
