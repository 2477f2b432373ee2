/- The disk of the program: a crash. -/
import Derived.Test.YtbjlffhnkcbnmaaDsk11
import Derived.Test.YtbjlffhnkcbnmaaPlainDisk2
namespace Go.Proofs.Ytbjlffhnkcbnmaa
open Go.ChangeShapes Go.WideShapes Go.ChangeAt Go.RowKit Go.Maps
open Pl (Tx Fl Ch Nm Dk)
set_option linter.unusedVariables false

/-- A slice of ints that is only read, its block one of G. -/
def IRow (w : World) (G : Nat → Prop) (v : Value) (zs : List Int) : Prop :=
  ∃ ao cp, v = .slice ao zs.length cp ∧ (zs = [] ∨ ∃ g off, ao = some ⟨g, off, none⟩ ∧ G g ∧ g < w.heap.size ∧ ∀ (j : Nat) x, zs[j]? = some x → w.cell? ⟨g, off + j, none⟩ = some (.int .i64 x))
theorem IRow.shape {w : World} {G : Nat → Prop} {v : Value} {zs : List Int} (h : IRow w G v zs) : ∃ ao cp, v = .slice ao zs.length cp := by obtain ⟨ao, cp, e, _⟩ := h; exact ⟨ao, cp, e⟩
theorem IRow.kept {w w' : World} {F G : Nat → Prop} {v : Value} {zs : List Int} (h : IRow w G v zs) (hw : Wr F w w') (hGF : ∀ k, G k → ¬ F k) : IRow w' G v zs := by
  obtain ⟨ao, cp, rfl, h⟩ := h
  refine ⟨ao, cp, rfl, h.imp id ?_⟩
  rintro ⟨g, off, rfl, hG, hg, hc⟩
  exact ⟨g, off, rfl, hG, Nat.lt_of_lt_of_le hg hw.size, fun j x hx => (World.cell?_of_block (hw.block g hg (hGF g hG))).trans (hc j x hx)⟩
theorem IRow.at_ {w : World} {G : Nat → Prop} {ao : Option Addr} {n cp : Nat} {zs : List Int} (h : IRow w G (.slice ao n cp) zs) {j : Nat} {x : Int} (hx : zs[j]? = some x) : ∃ g off, ao = some ⟨g, off, none⟩ ∧ g < w.heap.size ∧ w.cell? ⟨g, off + j, none⟩ = some (.int .i64 x) := by
  obtain ⟨a, c, e, h⟩ := h
  cases e
  rcases h with h | ⟨g, off, rfl, _, hg, hc⟩
  · rw [h] at hx; simp at hx
  · exact ⟨g, off, rfl, hg, hc j x hx⟩
theorem IRow.bounded {w : World} {G : Nat → Prop} {v : Value} {zs : List Int} (h : IRow w G v zs) : IRow w (fun x => G x ∧ x < w.heap.size) v zs := by
  obtain ⟨ao, cp, e, h⟩ := h
  refine ⟨ao, cp, e, h.imp id ?_⟩
  rintro ⟨g, off, h1, hG, hg, r⟩
  exact ⟨g, off, h1, ⟨hG, hg⟩, hg, r⟩
theorem chCells_vals (φ : Nat → Nat) (c : Ch) : ∃ (t : Bool) (s1 s2 : ByteArray) (p : Option Addr), chCells φ c = [.bool t, .string s1, .string s2, .pointer p] := by
  unfold chCells
  split
  · exact ⟨_, _, _, _, rfl⟩
  · exact ⟨_, _, _, _, rfl⟩
theorem ch_len (φ : Nat → Nat) (c : Ch) : (chCells φ c).length = 4 := by unfold chCells; split <;> rfl
theorem ch_get {φ : Nat → Nat} : ∀ {l : List Ch} {j : Nat} {c : Ch}, l[j]? = some c → ∀ k, k < 4 → (l.flatMap (chCells φ))[j * 4 + k]? = (chCells φ c)[k]?
  | [], j, c, h => by simp at h
  | d :: r, 0, c, h => fun k hk => by
    simp at h; subst h
    rw [List.flatMap_cons, List.getElem?_append_left (by rw [ch_len]; omega)]
    congr 1; omega
  | d :: r, j + 1, c, h => fun k hk => by
    rw [List.flatMap_cons, List.getElem?_append_right (by rw [ch_len]; omega), ch_len]
    rw [← ch_get (l := r) (j := j) (c := c) (by simpa using h) k hk]
    congr 1; omega
/-- The map of lasting names alone is written. -/
theorem DiskAt.updL {w w' : World} {b : Nat} {F : Nat → Prop} {φ : Nat → Nat} {S : Dk} {nm lm : Nat} {ov pv : Value} (h : DiskAt w b F φ S nm lm ov pv) {l : Nm} (hm : FMap w' lm φ l) (hw : Wr (fun k => k = lm) w w') : DiskAt w' b F φ { S with last := l } nm lm ov pv where
  lt := fun k hk => Nat.lt_of_lt_of_le (h.lt k hk) hw.size
  own := h.own
  ownN := h.ownN
  ownL := h.ownL
  ne := h.ne
  block := (hw.block b (h.lt b h.own) (h.last.notCells h.block)).trans h.block
  names := h.names.kept hw (fun e => h.ne e)
  last := hm
  files := fun i f hf => by
    obtain ⟨f1, f2⟩ := h.files i f hf
    exact ⟨(hw.block _ (h.lt _ f2) (h.last.notCells f1)).trans f1, f2⟩
  inj := h.inj
  opn := h.opn.kept_by fun k cur hk => hw.block k (Array.getElem?_eq_some_iff.1 hk).1 (h.last.notCells hk)
  plan := h.plan.same hw.size fun k cur fz _ hk => hw.block k (Array.getElem?_eq_some_iff.1 hk).1 (h.last.notCells hk)
theorem inj_idx : ∀ {l : Nm}, (l.map (·.2)).Nodup → ∀ {i j : Nat} {p q : Tx × Nat}, l[i]? = some p → l[j]? = some q → p.2 = q.2 → i = j
  | [], _, i, j, p, q, hp, _, _ => by simp at hp
  | x :: r, h, 0, 0, p, q, hp, hq, e => rfl
  | x :: r, h, 0, j + 1, p, q, hp, hq, e => by
    have h1 := List.nodup_cons.1 h
    simp at hp; subst hp
    exact absurd (List.mem_map.2 ⟨q, List.mem_of_getElem? (show r[j]? = some q by simpa using hq), e.symm⟩) h1.1
  | x :: r, h, i + 1, 0, p, q, hp, hq, e => by
    have h1 := List.nodup_cons.1 h
    simp at hq; subst hq
    exact absurd (List.mem_map.2 ⟨p, List.mem_of_getElem? (show r[i]? = some p by simpa using hp), e⟩) h1.1
  | x :: r, h, i + 1, j + 1, p, q, hp, hq, e => by
    have h1 := List.nodup_cons.1 h
    rw [inj_idx h1.2 (show r[i]? = some p by simpa using hp) (show r[j]? = some q by simpa using hq) e]
/-- Behind q names: the new map, the new files. -/
structure CrashQ (S : Dk) (N : Nm) (bs : List Int) (mm : Nat) (w9 : World) (q : Nat) (wr : World) (ψ : Nat → Nat) : Prop where
  w : Wr (fun k => k = mm) w9 wr
  m : FMap wr mm ψ (N.take q)
  f : ∀ (r : Nat) p f, r < q → N[r]? = some p → S.files[p.2]? = some f → wr.heap[ψ p.2]? = some (.cells #[strV (Pl.cut bs r f).text, .int .i64 (Pl.cut bs r f).sync] 79 (0, 0)) ∧ w9.heap.size ≤ ψ p.2
  i : ∀ (r r' : Nat) p p', r < r' → r' < q → N[r]? = some p → N[r']? = some p' → ψ p.2 ≠ ψ p'.2
theorem CrashQ.next {S : Dk} {N : Nm} {bs : List Int} {mm q n : Nat} {w9 wr w2 : World} {ψ : Nat → Nat} (C : CrashQ S N bs mm w9 q wr ψ) (hG : Pl.Good S.files.length N) {p : Tx × Nat} {f : Fl} (hp : N[q]? = some p) (hf : S.files[p.2]? = some f) {D : DataW Unit}
    (hown : ownsP w2 mm n (D.put (litB p.1) (.lit (.int .i64 wr.heap.size)))) (hfa : FilesAre D ψ (N.take q)) (hw : Wr (fun k => k = mm) wr w2) (hb : w2.heap[wr.heap.size]? = some (.cells #[strV (Pl.cut bs q f).text, .int .i64 (Pl.cut bs q f).sync] 79 (0, 0))) (h9 : mm < w9.heap.size) :
    CrashQ S N bs mm w9 (q + 1) w2 (fun i => if i = p.2 then wr.heap.size else ψ i) := by
  have hpm := List.mem_of_getElem? hp
  have hne : ∀ (r : Nat) p', r < q → N[r]? = some p' → p'.2 ≠ p.2 := fun r p' hr hp' e => by
    have h1 := inj_idx hG.inj hp' hp e
    omega
  have hlt : ∀ (r : Nat) p' f', r < q → N[r]? = some p' → S.files[p'.2]? = some f' → ψ p'.2 < wr.heap.size := fun r p' f' hr hp' hf' => (Array.getElem?_eq_some_iff.1 (C.f r p' f' hr hp' hf').1).1
  have hfl : ∀ p', p' ∈ N → ∃ f', S.files[p'.2]? = some f' := fun p' hm => ⟨_, List.getElem?_eq_getElem (hG.lt p' hm)⟩
  refine ⟨C.w.trans hw (Grew.refl _ _), ?_, ?_, ?_⟩
  · have h1 : FilesAre D (fun i => if i = p.2 then wr.heap.size else ψ i) (N.take q) := hfa.turn fun p' hm => by
      obtain ⟨r, hr⟩ := List.getElem?_of_mem hm
      have hrq : r < q := by have := (List.getElem?_eq_some_iff.1 hr).1; rw [List.length_take] at this; omega
      rw [List.getElem?_take_of_lt hrq] at hr
      rw [if_neg (hne r p' hrq hr)]
    have h2 := h1.put (Pl.ris_take hG.ris q) p.1 p.2
    rw [Pl.wi_take hG.ris hp] at h2
    simp only [if_true] at h2
    exact FMap.of hown h2
  · intro r p' f' hr hp' hf'
    by_cases e : r = q
    · subst e
      rw [hp] at hp'; cases hp'
      rw [hf] at hf'; cases hf'
      simp only [if_true]
      exact ⟨hb, C.w.size⟩
    · have hrq : r < q := by omega
      obtain ⟨h1, h2⟩ := C.f r p' f' hrq hp' hf'
      rw [if_neg (hne r p' hrq hp')]
      exact ⟨(hw.block _ (hlt r p' f' hrq hp' hf') (by omega)).trans h1, h2⟩
  · intro r r' p1 p2 h1 h2 hp1 hp2
    have hrq : r < q := by omega
    obtain ⟨f1, hf1⟩ := hfl p1 (List.mem_of_getElem? hp1)
    rw [if_neg (hne r p1 hrq hp1)]
    by_cases e : r' = q
    · subst e
      rw [hp] at hp2; cases hp2
      rw [if_pos rfl]
      exact Nat.ne_of_lt (hlt r p1 f1 hrq hp1 hf1)
    · rw [if_neg (hne r' p2 (by omega) hp2)]
      exact C.i r r' p1 p2 h1 (by omega) hp1 hp2
theorem crash_done {S : Dk} {N : Nm} {bs : List Int} {mm b g : Nat} {F : Nat → Prop} {w9 wr w5 W : World} {φ ψ : Nat → Nat} {nm lm : Nat} {ov pv : Value} (h9 : DiskAt w9 b F φ { S with last := N } nm lm ov pv) (C : CrashQ S N bs mm w9 N.length wr ψ) (hG : Pl.Good S.files.length N)
    (hmF : ¬ F mm) (h9s : mm < w9.heap.size) (hg : g = wr.heap.size) (hgm : FMap w5 g ψ N) (hb5 : Below wr.heap.size wr w5)
    (hb : W.heap[b]? = some (.cells #[.map (some mm), .map (some g), .slice none 0 0, .int .i64 S.steps, .slice none 0 0, .bool false] 69 (0, 0))) (ho : ∀ k, k ≠ b → W.heap[k]? = w5.heap[k]?) (hs : W.heap.size = w5.heap.size) :
    DiskAt W b (fun k => F k ∨ (mm ≤ k ∧ k < W.heap.size)) (fun i => if i ∈ N.map (·.2) then ψ i else φ i) ⟨Pl.cutAll bs N 0 S.files, N, N, [], [], S.steps, false⟩ mm g (.slice none 0 0) (.slice none 0 0) := by
  have hsz := C.w.size
  have hsz5 := hb5.size
  have hr := h9.kept C.w (fun k hk e => hmF (e ▸ hk))
  have hm := C.m
  rw [List.take_length] at hm
  have hmb : mm ≠ b := fun e => hm.notCells hr.block e.symm
  have hgb : g ≠ b := fun e => by have := hr.lt b hr.own; omega
  have hψ : ∀ p ∈ N, (fun i => if i ∈ N.map (·.2) then ψ i else φ i) p.2 = ψ p.2 := fun p hp => if_pos (List.mem_map.2 ⟨p, hp, rfl⟩)
  have hat : ∀ i, i ∈ N.map (·.2) → ∃ r p f, N[r]? = some p ∧ p.2 = i ∧ S.files[i]? = some f ∧ r < N.length := fun i hi => by
    obtain ⟨p, hp, rfl⟩ := List.mem_map.1 hi
    obtain ⟨r, hr⟩ := List.getElem?_of_mem hp
    exact ⟨r, p, _, hr, rfl, List.getElem?_eq_getElem (hG.lt p hp), (List.getElem?_eq_some_iff.1 hr).1⟩
  have hlow : ∀ i, i < S.files.length → φ i < w9.heap.size := fun i hi => h9.lt _ (h9.files i _ (List.getElem?_eq_getElem hi)).2
  exact {
    lt := fun k hk => by
      rcases hk with hk | hk
      · have := hr.lt k hk; omega
      · exact hk.2
    own := .inl h9.own
    ownN := .inr ⟨Nat.le_refl _, by omega⟩
    ownL := .inr ⟨by omega, by have := hgm.lt; omega⟩
    ne := by omega
    block := hb
    names := (((hm.same (hb5.block mm hm.lt)).same (ho mm hmb))).turn hψ
    last := (hgm.same (ho g hgb)).turn hψ
    files := fun i f' hf' => by
      by_cases hi : i ∈ N.map (·.2)
      · obtain ⟨r, p, f, hp, rfl, hf, hrl⟩ := hat i hi
        have h1 := Pl.cutAll_hit bs N 0 S.files hG.inj r p hp
        rw [hf, Nat.zero_add] at h1
        have h2 : f' = Pl.cut bs r f := by
          have h3 : some f' = some (Pl.cut bs r f) := hf'.symm.trans h1
          exact Option.some.inj h3
        obtain ⟨c1, c2⟩ := C.f r p f hrl hp hf
        rw [h2]
        have hlt := (Array.getElem?_eq_some_iff.1 c1).1
        simp only [if_pos hi]
        refine ⟨((ho _ fun e => ?_).trans (hb5.block _ hlt)).trans c1, .inr ⟨by omega, by omega⟩⟩
        have := h9.lt b h9.own; omega
      · have h1 : S.files[i]? = some f' := by
          have := Pl.cutAll_other bs N 0 S.files i hi
          exact this.symm.trans hf'
        obtain ⟨c1, c2⟩ := hr.files i f' h1
        simp only [if_neg hi]
        exact ⟨((ho _ (hr.notb (by decide) c1)).trans (hb5.block _ (hr.lt _ c2))).trans c1, .inl c2⟩
    inj := fun i i' hi hi' e => by
      simp only [Pl.cutAll_length] at hi hi'
      by_cases h1 : i ∈ N.map (·.2) <;> by_cases h2 : i' ∈ N.map (·.2)
      · obtain ⟨r, p, f, hp, rfl, hf, hrl⟩ := hat i h1
        obtain ⟨r', p', f', hp', rfl, hf', hrl'⟩ := hat i' h2
        simp only [if_pos h1, if_pos h2] at e
        rcases Nat.lt_trichotomy r r' with h | h | h
        · exact absurd e (C.i r r' p p' h hrl' hp hp')
        · subst h; rw [hp] at hp'; cases hp'; rfl
        · exact absurd e.symm (C.i r' r p' p h hrl hp' hp)
      · obtain ⟨r, p, f, hp, rfl, hf, hrl⟩ := hat i h1
        simp only [if_pos h1, if_neg h2] at e
        have := (C.f r p f hrl hp hf).2
        have := hlow i' hi'
        omega
      · obtain ⟨r, p, f, hp, rfl, hf, hrl⟩ := hat i' h2
        simp only [if_neg h1, if_pos h2] at e
        have := (C.f r p f hrl hp hf).2
        have := hlow i hi
        omega
      · simp only [if_neg h1, if_neg h2] at e
        exact h9.inj i i' hi hi' e
    opn := RowC.nil _ _ _ _
    plan := PRow.nil _ _ }
theorem FMap.look {w : World} {m : Nat} {φ : Nat → Nat} {l : Nm} (h : FMap w m φ l) {n : Tx} {f : Nat} (hf : Pl.find l n = some f) (hn : n.length ≤ 140737488355328) :
    (Instr.lookup 66 (.map (some m)) (.string (str n)) false).run Try.prog w = .ok (.pointer (some ⟨φ f, 0, none⟩)) w := by
  obtain ⟨D, hown, hfa⟩ := h
  obtain ⟨v, ps, hrun, hv⟩ := hown.lookup strKeyed Try.underlying66 (zeroP w) (zd := .nil) (zp := []) rfl (key_str hn)
  rw [hfa.at_ n f hf] at hv
  rw [ptrE_lit hv] at hrun
  exact hrun
set_option maxRecDepth 100000 in
set_option maxHeartbeats 6400000 in
theorem crash_any {w : World} {b j : Nat} {F G : Nat → Prop} {S : Dk} (h : Dsk w b F S) (hI : S.Inv) (hS : S.Small j) (hj : j ≤ 32768) (k : Int) (v : Value) (bs : List Int) (hv : IRow w G v bs) (hG : ∀ x, G x → ¬ F x) (hbl : bs.length ≤ 17592186044416) :
    Calls Try.prog 12 #[.pointer (some ⟨b, 0, none⟩), .agg #[.int .i64 k, v]] w (OpEnd b F (S.crashS k bs) (.tuple #[]) w) := by
  obtain ⟨φ, nm, lm, ov, pv, h⟩ := h
  obtain ⟨va, vc, rfl⟩ := hv.shape
  obtain ⟨oa, oc, rfl⟩ := h.opn.shape
  have HA := Lib.hid (show DiskAt (w.alloc (.cells #[.int .i64 k, .slice va bs.length vc] 24)) b F φ S nm lm (.slice oa S.opn.length oc) pv ∧ Wr F w (w.alloc (.cells #[.int .i64 k, .slice va bs.length vc] 24)) ∧ (w.alloc (.cells #[.int .i64 k, .slice va bs.length vc] 24)).heap[w.heap.size]? = some (.cells #[.int .i64 k, .slice va bs.length vc] 24 (0, 0)) ∧ IRow (w.alloc (.cells #[.int .i64 k, .slice va bs.length vc] 24)) G (.slice va bs.length vc) bs from
    ⟨h.alloc _, (Wr.refl _ _).alloc _, heap_alloc_new w _, hv.kept ((Wr.refl F w).alloc _) hG⟩)
  have hwb : (w.alloc (.cells #[.int .i64 k, .slice va bs.length vc] 24)).heap.size = w.heap.size + 1 := by simp
  have HnF := Lib.hid (show ¬ F w.heap.size from fun hk => Nat.lt_irrefl _ (h.lt _ hk))
  have HHG := Lib.hid hG
  obtain ⟨-, -, c2, -, -, -⟩ := HA.out.1.cells
  have hol := hS.opn
  clear h hv hG
  go_enter Try.func12, Try.ntmps12
  go_wp2_with fail
  generalize w.alloc (.cells #[.int .i64 k, .slice va bs.length vc] 24) = wb at HA hwb c2 ⊢
  have HWB := Lib.hid hwb
  -- the box, in each world behind it
  have HBX := Lib.hid (show ∀ W, Wr F wb W → W.cell? ⟨w.heap.size, 0, none⟩ = some (.int .i64 k) ∧ W.cell? ⟨w.heap.size, 1, none⟩ = some (.slice va bs.length vc) from fun W hW => by
    have h1 := (hW.block w.heap.size (by omega) HnF.out).trans HA.out.2.2.1
    exact ⟨by simp [World.cell?, h1], by simp [World.cell?, h1]⟩)
  clear c2 hwb
  go_loopw [19] (fun i wr => ∃ q : Nat, q ≤ S.opn.length ∧ i = .int .i64 q ∧ Hid (DiskAt wr b F φ { S with last := Pl.leftQ S k q } nm lm (.slice oa S.opn.length oc) pv) ∧ Hid (Wr F wb wr)) (fun i _ => S.opn.length - (intOf i).toNat)
  case atStart => exact ⟨0, Nat.zero_le _, rfl, by show DiskAt _ _ _ _ _ _ _ _ _; rw [Pl.leftQ_zero]; exact HA.out.1, Wr.refl _ _⟩
  case round =>
    obtain ⟨q, hq, rfl, hd, hw⟩ := hrel
    by_cases hql : q < S.opn.length
    · obtain ⟨c, hc⟩ : ∃ c, S.opn[q]? = some c := ⟨_, List.getElem?_eq_getElem hql⟩
      obtain ⟨t0, s1, s2, p3, hx⟩ := chCells_vals φ c
      obtain ⟨g, oc', e1, hgF, hg, -, hcell⟩ := hd.out.opn.at_ (by show 0 < S.opn.length; omega) (by omega)
      cases e1
      have hgt := ch_get (φ := φ) hc
      have d0 : wr.cell? ⟨g, q * 4, none⟩ = some (.bool t0) := hcell _ _ (by have := hgt 0 (by omega); rw [hx] at this; exact this)
      have d1 : wr.cell? ⟨g, q * 4 + 1, none⟩ = some (.string s1) := hcell _ _ (by have := hgt 1 (by omega); rw [hx] at this; exact this)
      have d2 : wr.cell? ⟨g, q * 4 + 2, none⟩ = some (.string s2) := hcell _ _ (by have := hgt 2 (by omega); rw [hx] at this; exact this)
      have d3 : wr.cell? ⟨g, q * 4 + 3, none⟩ = some (.pointer p3) := hcell _ _ (by have := hgt 3 (by omega); rw [hx] at this; exact this)
      have hqI : (q : Int) < (S.opn.length : Int) := by omega
      have hq0 : (0 : Int) ≤ (q : Int) := by omega
      have HXA := Lib.hid (fun o => HBX.out (wr.alloc o) (hw.out.alloc o))
      have bx := fun o => (HXA.out o).1
      have HW := Lib.hid (show DiskAt (wr.alloc (.cells #[.bool t0, .string s1, .string s2, .pointer p3] 72)) b F φ { S with last := Pl.leftQ S k q } nm lm _ pv ∧ Wr F wb (wr.alloc (.cells #[.bool t0, .string s1, .string s2, .pointer p3] 72)) ∧ BlkC (wr.alloc (.cells #[.bool t0, .string s1, .string s2, .pointer p3] 72)) wr.heap.size (.bool t0) (.string s1) (.string s2) (.pointer p3) from ⟨hd.out.alloc _, hw.out.alloc _, BlkC.new rfl⟩)
      by_cases hqk : (q : Int) < k
      · have hdo := fun W (hm : FMap W lm φ (Pl.leftQ S k q)) => do_any (N := S.files.length) hm (by rw [(Pl.leftQ_in hc hqk).2]; exact (hI.snd.good hI.last q).ris) (by rw [(Pl.leftQ_in hc hqk).2]; have := (hI.snd.good hI.last q).few; have := hS.files; omega) (c := c) (by rw [(Pl.leftQ_in hc hqk).2]; exact hI.snd.at hc) (hS.chs c (List.mem_of_getElem? hc))
        rw [hx] at hdo
        replace hdo : ∀ W, FMap W lm φ (Pl.leftQ S k q) → Calls Try.prog 32 #[.agg #[.bool t0, .string s1, .string s2, .pointer p3], .map (some lm)] W _ := hdo
        have HDO := Lib.hid hdo
        have HQ := Lib.hid (Pl.leftQ_in hc hqk).1
        clear hc hx hcell hgt hdo hd hw HXA
        go_wp2_with fail
        generalize wr.alloc (.cells #[.bool t0, .string s1, .string s2, .pointer p3] 72) = W at HW ⊢
        obtain ⟨-, c1, -, -, -, -⟩ := HW.out.1.cells
        obtain ⟨k0, k1, k2, k3⟩ := HW.out.2.2.cells
        go_still_tail 5, (by kernel_rfl)
        go_wp2_with fail
        (refine (HDO.out W.drew (HW.out.1.below (Below.refl _ _).drew).last).mono ?_; rintro e wd ⟨rfl, m1, r1⟩)
        have HB := Lib.hid (show DiskAt wd b F φ { S with last := Pl.leftQ S k (q + 1) } nm lm _ pv ∧ Wr F wb wd from by
          have hd := HW.out.1.below (Below.refl _ _).drew
          refine ⟨by rw [HQ.out]; exact hd.updL m1 r1, HW.out.2.1.trans ((Wr.of_below (Below.refl _ _).drew).trans (r1.mono fun k hk _ => hk ▸ hd.ownL) (Grew.refl _ _)) (Grew.refl _ _)⟩)
        clear m1 r1 c1 k0 k1 k2 k3
        go_wp2
        go_roundw
        case rel => exact ⟨q + 1, by omega, by go_num, HB.out⟩
        case measure => simp [intOf]; omega
      · have HQ := Lib.hid (Pl.leftQ_out (S := S) hqk)
        clear hc hx hcell hgt hd hw HXA
        go_wp2
        go_roundw
        case rel => exact ⟨q + 1, by omega, by go_num, by show DiskAt _ _ _ _ _ _ _ _ _; rw [HQ.out]; exact HW.out.1, HW.out.2.1⟩
        case measure => simp [intOf]; omega
    · obtain rfl : q = S.opn.length := by omega
      have HD := Lib.hid (show DiskAt wr b F φ { S with last := S.left k } nm lm (.slice oa S.opn.length oc) pv by have := hd.out; rwa [Pl.leftQ_all] at this)
      have hNf : (S.left k).length ≤ 32768 := by have := (hI.left k).few; have := hS.files; omega
      have hmm := @run_makeMap Try.prog
      have HW8 := Lib.hid (show DiskAt (wr.alloc (.map #[] 0)) b F φ { S with last := S.left k } nm lm (.slice oa S.opn.length oc) pv ∧ Wr F wb (wr.alloc (.map #[] 0)) ∧ FMap (wr.alloc (.map #[] 0)) wr.heap.size φ [] ∧ (wr.alloc (.map #[] 0)).heap.size = wr.heap.size + 1 from ⟨HD.out.alloc _, hw.out.alloc _, FMap.made _ _, by simp⟩)
      obtain ⟨-, c1, -, -, -, -⟩ := HW8.out.1.cells
      have hsn := sorted_names HW8.out.1.last (hI.left k).ris hNf
      rw [HW8.out.2.2.2] at hsn
      have HSN := Lib.hid hsn
      obtain ⟨wo, hwo⟩ : ∃ wo, wo = wr := ⟨_, rfl⟩
      subst hwo
      have hwbs := hw.out.size
      have hwbz := HWB.out
      obtain ⟨N, hN⟩ : ∃ N, S.left k = N := ⟨_, rfl⟩
      have HGN := Lib.hid (show Pl.Good S.files.length N by rw [← hN]; exact hI.left k)
      have HSH := Lib.hid (show Pl.Short N by rw [← hN]; exact hS.left k)
      have HNE := Lib.hid hN
      rw [hN] at HSN HW8 hNf
      clear hd hsn HD hN
      go_wp2_with fail
      (refine (keys_iter _ _).mono ?_; rintro e w1 ⟨rfl, rfl⟩)
      go_wp2_with fail
      (refine HSN.out.mono ?_; rintro e w9 ⟨v9, rfl, z9, b9⟩)
      obtain ⟨ka, kc, rfl⟩ : ∃ ka kc, v9 = .slice ka N.length kc := by obtain ⟨a, c, e⟩ := z9.shape; exact ⟨a, c, by rw [e, textsB_length, Pl.keys, List.length_map]⟩
      have H9 := Lib.hid (show DiskAt w9 b F φ { S with last := N } nm lm (.slice oa S.opn.length oc) pv ∧ Wr F wb w9 ∧ FMap w9 wo.heap.size φ [] ∧ wo.heap.size < w9.heap.size ∧ SRow w9 (.slice ka N.length kc) (textsB (Pl.keys N)) ∧ (∀ g off, ka = some ⟨g, off, none⟩ → g ≠ wo.heap.size) from by
        have hs := b9.size
        rw [HW8.out.2.2.2] at hs
        refine ⟨HW8.out.1.below b9, HW8.out.2.1.trans (Wr.of_below b9) (Grew.refl _ _), HW8.out.2.2.1.same (b9.block _ (by rw [HW8.out.2.2.2]; omega)), by omega, z9.srow, fun g off e => ?_⟩
        rcases z9 with ⟨e2, _⟩ | ⟨g2, cap, cur, e2, h2, _⟩
        · simp only [Value.slice.injEq] at e2; rw [e2.1] at e; cases e
        · rw [HW8.out.2.2.2] at h2
          simp only [Value.slice.injEq] at e2
          rw [e2.1] at e; simp at e; omega)
      have HmF := Lib.hid (show ¬ F wo.heap.size from fun hk => by have := HA.out.1.lt _ hk; omega)
      have h9s := H9.out.2.2.2.1
      clear z9 b9 c1 hmm
      go_wp2_with fail
      go_loopw [43] (fun i wr => ∃ q : Nat, q ≤ N.length ∧ i = .int .i64 q ∧ Hid (∃ ψ, CrashQ S N bs wo.heap.size w9 q wr ψ)) (fun i _ => N.length - (intOf i).toNat)
      case atStart => exact ⟨0, Nat.zero_le _, rfl, φ, ⟨Wr.refl _ _, by rw [List.take_zero]; exact H9.out.2.2.1, fun r p f hr => by omega, fun r r' p p' h1 h2 => by omega⟩⟩
      case round =>
        obtain ⟨q, hq, rfl, hcq⟩ := hrel
        obtain ⟨ψ, C⟩ := hcq.out
        have HC := Lib.hid C
        have hsz := C.w.size
        -- the disk, the box, the ints in this world
        have HR := Lib.hid (show DiskAt wr b F φ { S with last := N } nm lm (.slice oa S.opn.length oc) pv ∧ wr.cell? ⟨w.heap.size, 1, none⟩ = some (.slice va bs.length vc) ∧ IRow wr (fun x => G x ∧ x < wb.heap.size) (.slice va bs.length vc) bs from by
          refine ⟨H9.out.1.kept C.w (fun k hk e => HmF.out (e ▸ hk)), ?_, ?_⟩
          · exact (World.cell?_of_block (C.w.block w.heap.size (by have := H9.out.2.1.size; omega) (by omega))).trans (HBX.out w9 H9.out.2.1).2
          · exact (HA.out.2.2.2.bounded.kept H9.out.2.1 (fun x hx => HHG.out x hx.1)).kept C.w (fun x hx e => by have := hx.2; omega))
        by_cases hql : q < N.length
        · obtain ⟨p, hp⟩ : ∃ p, N[q]? = some p := ⟨_, List.getElem?_eq_getElem hql⟩
          have hpm := List.mem_of_getElem? hp
          obtain ⟨f, hf⟩ : ∃ f, S.files[p.2]? = some f := ⟨_, List.getElem?_eq_getElem (HGN.out.lt p hpm)⟩
          have hfs := hI.sync f (List.mem_of_getElem? hf)
          have hft := hS.texts f (List.mem_of_getElem? hf)
          have hsz2 := str_size f.text
          obtain ⟨hfb, hfF⟩ := HR.out.1.files p.2 f hf
          have f0 : ∀ n, (wr.drewN n).cell? ⟨φ p.2, 0, none⟩ = some (.string (str f.text)) := fun n => by
            show wr.cell? _ = _
            simp [World.cell?, hfb, strV]
          have f1 : ∀ n, (wr.drewN n).cell? ⟨φ p.2, 1, none⟩ = some (.int .i64 f.sync) := fun n => by
            show wr.cell? _ = _
            simp [World.cell?, hfb]
          obtain ⟨-, c1, -, -, -, -⟩ := HR.out.1.cells
          have hlook := HR.out.1.last.look (Pl.find_of_mem HGN.out.ris (show (p.1, p.2) ∈ N from hpm)) (HSH.out p hpm)
          have c0 := HR.out.2.1
          obtain ⟨gk, ok, ek, hname⟩ : ∃ g off, ka = some ⟨g, off, none⟩ ∧ wr.cell? ⟨g, off + q, none⟩ = some (.string (str p.1)) := by
            obtain ⟨ao, cp, e, hh⟩ := H9.out.2.2.2.2.1
            rcases hh with h0 | ⟨g, off, rfl, hg, hc⟩
            · have := congrArg List.length h0
              rw [textsB_length, Pl.keys, List.length_map] at this
              have h2 : N.length = 0 := this
              omega
            · have e2 : ka = some ⟨g, off, none⟩ := by simp only [Value.slice.injEq] at e; exact e.1
              have hcc := hc q (str p.1) (by simp [textsB, Pl.keys, hp])
              exact ⟨g, off, e2, (World.cell?_of_block (C.w.block g hg (H9.out.2.2.2.2.2 g off e2))).trans hcc⟩
          subst ek
          have hqI : (q : Int) < (N.length : Int) := by omega
          have hq0 : (0 : Int) ≤ (q : Int) := by omega
          have HP := Lib.hid hp
          have HF := Lib.hid hf
          obtain ⟨n, hn⟩ : ∃ n, n = Pl.more bs q f := ⟨_, rfl⟩
          have hns : f.sync + n ≤ f.text.length := by rw [hn]; unfold Pl.more; omega
          have HN := Lib.hid (show Pl.cut bs q f = ⟨f.text.take (f.sync + n), f.sync + n⟩ by unfold Pl.cut; rw [← hn])
          have hcut := str_take f.text (f.sync + n) hns
          have hts : (str (f.text.take (f.sync + n))).size = f.sync + n := by rw [str_size, List.length_take]; omega
          have hnsI : (f.sync : Int) + (n : Int) ≤ (f.text.length : Int) := by omega
          have hw2 : IntKind.i64.wrap ((f.sync : Int) + (n : Int)) = (f.sync : Int) + (n : Int) := IntWalk.i64_in _ (by omega)
          have htn : ((f.sync : Int) + (n : Int)).toNat = f.sync + n := by omega
          obtain ⟨D, hown, hfa⟩ := C.m
          have HFA := Lib.hid hfa
          have HOW := Lib.hid (show ∀ n o, ((wr.drewN n).alloc o).ownsMap Try.prog 9 ptrE wo.heap.size (N.take q).length D from fun n o => World.ownsMap.alloc (show (wr.drewN n).ownsMap Try.prog 9 ptrE wo.heap.size (N.take q).length D from hown) o)
          have hkey := key_str (HSH.out p hpm)
          unfold strV at hkey
          have hTl : (f.text.take (f.sync + n)).length = f.sync + n := by rw [List.length_take]; omega
          have hqm : (N.take q).length + 1 ≤ maxLen := by rw [List.length_take]; unfold maxLen; omega
          clear hp hf hfb C hpm hown hfa
          by_cases hbs : bs.length = 0
          · have hn0 : n = 0 := by rw [hn]; unfold Pl.more; rw [if_pos (List.eq_nil_of_length_eq_zero hbs)]; omega
            have hbI : decide ((0 : Int) < (bs.length : Int)) = false := by rw [decide_eq_false_iff_not]; omega
            have hbN : decide (0 < bs.length) = false := by rw [decide_eq_false_iff_not]; omega
            clear hbs
            subst hn0
            simp only [Nat.add_zero] at HN hcut hts hTl
            obtain ⟨T, hT⟩ : ∃ T, f.text.take f.sync = T := ⟨_, rfl⟩
            rw [hT] at HN hcut hts hTl
            clear hn hT hw2 htn hnsI
            go_wp2_with fail
            go_quiet (fail)
            go_wp2_with (at_mapUpdate; refine wpList_mapUpdate_in _ rfl _ _ _ 66 rfl 9 70 strKeyed Try.underlying66 ptrE wo.heap.size (N.take q).length D rfl (HOW.out _ _) (by omega) _ _ _ rfl rfl hkey _ _ (ptrE_at wr.heap.size) ?_; intro w2 hown2 ht2)
            have hw2' : Wr (fun k => k = wo.heap.size) wr w2 := ((((Wr.refl _ wr).drewN _).alloc _).trans (wr_turned ht2) (Grew.refl _ _))
            have hbk : w2.heap[wr.heap.size]? = some (.cells #[strV (Pl.cut bs q f).text, .int .i64 (Pl.cut bs q f).sync] 79 (0, 0)) := by
              rw [HN.out, (wr_turned ht2).block _ (by simp) (by omega)]
              exact heap_alloc_new (wr.drewN _) _
            have HC2 := Lib.hid (HC.out.next HGN.out HP.out HF.out hown2 HFA.out hw2' hbk h9s)
            clear hown2 ht2 hw2' hbk
            go_wp2
            go_roundw
            case rel => exact ⟨q + 1, by omega, by go_num, _, HC2.out⟩
            case measure => simp [intOf]; omega
          · obtain ⟨x, hx⟩ : ∃ x, bs[q % bs.length]? = some x := ⟨_, List.getElem?_eq_getElem (Nat.mod_lt _ (by omega))⟩
            obtain ⟨gi, oi, ei, hgi, hci⟩ := HR.out.2.2.at_ hx
            subst ei
            have hbI : decide ((0 : Int) < (bs.length : Int)) = true := by rw [decide_eq_true_iff]; omega
            have hbN : decide (0 < bs.length) = true := by rw [decide_eq_true_iff]; omega
            have hb0 : ((bs.length : Int) == 0) = false := by rw [beq_eq_false_iff_ne]; omega
            have hmod : (q : Int).tmod (bs.length : Int) = ((q % bs.length : Nat) : Int) := by rw [Int.tmod_eq_emod_of_nonneg (by omega)]; rfl
            have hnx : max (0 : Int) (min x ((f.text.length : Int) - (f.sync : Int))) = (n : Int) := by
              rw [hn]
              unfold Pl.more
              rw [if_neg (fun e => hbs (by rw [e]; rfl)), List.getD_eq_getElem?_getD, hx]
              simp only [Option.getD_some]
              omega
            have hml : q % bs.length < bs.length := Nat.mod_lt _ (by omega)
            have hbl0 : (0 : Int) ≤ ((f.text.length : Int) - (f.sync : Int)) := by omega
            obtain ⟨mi, hmi⟩ : ∃ mi, q % bs.length = mi := ⟨_, rfl⟩
            rw [hmi] at hmod hml hci
            have hmlI : (mi : Int) < (bs.length : Int) := by omega
            have hmi0 : (0 : Int) ≤ (mi : Int) := by omega
            have ci : ∀ n, (wr.drewN n).cell? ⟨gi, oi + mi, none⟩ = some (.int .i64 x) := fun n => hci
            have ca : ∀ n, (wr.drewN n).cell? ⟨w.heap.size, 1, none⟩ = some (.slice (some ⟨gi, oi, none⟩) bs.length vc) := fun n => c0
            have hw1 : IntKind.i64.wrap ((f.text.length : Int) - (f.sync : Int)) = (f.text.length : Int) - (f.sync : Int) := IntWalk.i64_in _ (by omega)
            obtain ⟨T, hT⟩ : ∃ T, f.text.take (f.sync + n) = T := ⟨_, rfl⟩
            rw [hT] at HN hcut hts hTl
            clear hn hT hbs hx hmi hci
            go_wp2_with fail
            go_quiet (fail)
            obtain ⟨n1, hn1⟩ : ∃ n1, n1 = nq := ⟨_, rfl⟩
            subst hn1
            go_wp2_with fail
            go_quiet (fail)
            go_wp2_with (at_mapUpdate; refine wpList_mapUpdate_in _ rfl _ _ _ 66 rfl 9 70 strKeyed Try.underlying66 ptrE wo.heap.size (N.take q).length D rfl (HOW.out _ _) (by omega) _ _ _ rfl rfl hkey _ _ (ptrE_at wr.heap.size) ?_; intro w2 hown2 ht2)
            have hw2' : Wr (fun k => k = wo.heap.size) wr w2 := ((((Wr.refl _ wr).drewN _).alloc _).trans (wr_turned ht2) (Grew.refl _ _))
            have hbk : w2.heap[wr.heap.size]? = some (.cells #[strV (Pl.cut bs q f).text, .int .i64 (Pl.cut bs q f).sync] 79 (0, 0)) := by
              rw [HN.out, (wr_turned ht2).block _ (by simp) (by omega)]
              exact heap_alloc_new (wr.drewN _) _
            have HC2 := Lib.hid (HC.out.next HGN.out HP.out HF.out hown2 HFA.out hw2' hbk h9s)
            clear hown2 ht2 hw2' hbk
            go_wp2
            go_roundw
            case rel => exact ⟨q + 1, by omega, by go_num, _, HC2.out⟩
            case measure => simp [intOf]; omega
        · obtain rfl : q = N.length := by omega
          have hlen : N.length ≤ 32768 := hNf
          have hmN := HC.out.m
          rw [List.take_length] at hmN
          have HCl := Lib.hid (mclone_any wr hmN)
          obtain ⟨c0', c1', -, -, -, -⟩ := HR.out.1.cells
          clear hmN
          go_wp2_with fail
          (refine HCl.out.mono ?_; rintro e w5 ⟨rfl, m5, b5⟩)
          have hd5 := HR.out.1.below b5
          obtain ⟨q0, q1, q2, q3, q4, q5⟩ := hd5.cells
          have g0 := hd5.free 0
          have g1 := hd5.free 1
          have g2 := hd5.free 2
          have g4 := hd5.free 4
          have g5 := hd5.free 5
          have H5 := Lib.hid (And.intro hd5.block (And.intro m5 (And.intro b5 hd5.own)))
          clear hd5 m5 b5 C c0' c1'
          go_wp2
          go_end0
          have hown := H5.out.2.2.2
          have hwb0 : wb.heap.size ≤ wo.heap.size := by first | omega | (have := hw.out.size; omega)
          have hWr : Wr F w w5 := HA.out.2.1.trans (H9.out.2.1.trans (G := fun k => k = wo.heap.size) (HC.out.w.trans (Wr.of_below H5.out.2.2.1) (Grew.refl _ _)) (fun k hk => .inr (by have e : k = wo.heap.size := hk; omega))) (Grew.refl _ _)
          have hWW := ((((hWr.setCell (p := ⟨b, 0, none⟩) hown (.map (some wo.heap.size))).setCell (p := ⟨b, 1, none⟩) hown (.map (some wr.heap.size))).setCell (p := ⟨b, 2, none⟩) hown (.slice none 0 0)).setCell (p := ⟨b, 4, none⟩) hown (.slice none 0 0)).setCell (p := ⟨b, 5, none⟩) hown (.bool false)
          have hb := heap_setCell_same (i := 5) (v := .bool false) (heap_setCell_same (i := 4) (v := .slice none 0 0) (heap_setCell_same (i := 2) (v := .slice none 0 0) (heap_setCell_same (i := 1) (v := .map (some wr.heap.size)) (heap_setCell_same (i := 0) (v := .map (some wo.heap.size)) H5.out.1))))
          have hh := HNE.out
          have hd := crash_done H9.out.1 HC.out HGN.out HmF.out h9s rfl H5.out.2.1 H5.out.2.2.1 hb (fun j hj => by
            repeat rw [Below.heap_setCell _ _ _ _ hj]) (by repeat rw [heap_setCell_size])
          have he : S.crashS k bs = ⟨Pl.cutAll bs N 0 S.files, N, N, [], [], S.steps, false⟩ := by unfold Pl.Dk.crashS; rw [hh]
          rw [he]
          exact ⟨rfl, _, ⟨_, _, _, _, _, hd⟩, fun k hk => hk.elim .inl (fun h2 => .inr (by have := HA.out.2.1.size; have := h2.1; omega)), hWW⟩
end Go.Proofs.Ytbjlffhnkcbnmaa
