/- Lives of a log, plainly: what a log's file holds, what a beginning of it tells. Lives of a log, plainly: a log that writes; Append, Sync keep what a crash may ask. Lives of a log, plainly: Rewrite keeps what a crash may ask. Lives of a log, plainly: what a crash leaves, what Open finds of it. -/
import Derived.Test.YtfbjmhipjfjaeaaGreatDoorM29
namespace Go.Proofs.YtfbjmhipjfjaeaaGreatDoor
open Pl
set_option linter.unusedVariables false
set_option linter.unusedSimpArgs false
namespace Pl
/-- A log's text from number f on. -/
def logF (f : Nat) (bs : List Tx) : Tx := headT f ++ encAll (grps f bs)
/-- Where its i-th group begins. -/
def atF (f : Nat) (bs : List Tx) (i : Nat) : Nat := (logF f (bs.take i)).length
section
variable {f : Nat} (hf : f ≠ 0) (bs : List Tx)
include hf
theorem logF_length : (logF f bs).length = 16 + (25 * bs.length + (bs.map List.length).sum) := by
  unfold logF; rw [List.length_append, headT_length hf, encAll_length]
theorem atF_zero : atF f bs 0 = 16 := by unfold atF; rw [List.take_zero, logF_length hf]; rfl
theorem atF_mono : ∀ (d i : Nat), atF f bs i ≤ atF f bs (i + d) := by
  intro d i
  unfold atF
  rw [logF_length hf, logF_length hf]
  have e : bs.take (i + d) = bs.take i ++ (bs.drop i).take d := List.take_add
  rw [e]
  simp only [List.length_append, List.map_append, List.sum_append]
  omega
theorem atF_ge (i : Nat) : 16 ≤ atF f bs i := by have := atF_mono hf bs i 0; rw [Nat.zero_add, atF_zero hf] at this; exact this
end
theorem atF_all (f : Nat) (bs : List Tx) : atF f bs bs.length = (logF f bs).length := by unfold atF; rw [List.take_length]
theorem logF_snoc (f : Nat) (bs : List Tx) (b : Tx) : logF f (bs ++ [b]) = logF f bs ++ encL (f + bs.length) b := by
  unfold logF
  rw [grps_snoc, encAll_snoc, List.append_assoc]
theorem logF_split (f : Nat) (bs : List Tx) {i : Nat} (hi : i ≤ bs.length) : logF f bs = logF f (bs.take i) ++ encAll (grps (f + i) (bs.drop i)) := by
  have e : bs = bs.take i ++ bs.drop i := (List.take_append_drop i bs).symm
  have hl : (bs.take i).length = i := by rw [List.length_take, Nat.min_eq_left hi]
  conv => lhs; rw [e]
  unfold logF
  rw [grps_append, encAll_append, List.append_assoc, hl]
theorem logF_take (f : Nat) (bs : List Tx) {i : Nat} (hi : i ≤ bs.length) : (logF f bs).take (atF f bs i) = logF f (bs.take i) := by
  rw [logF_split f bs hi]
  show (logF f (bs.take i) ++ _).take (logF f (bs.take i)).length = _
  rw [List.take_left]
theorem atF_le (f : Nat) (bs : List Tx) {i : Nat} (hi : i ≤ bs.length) : atF f bs i ≤ (logF f bs).length := by
  rw [logF_split f bs hi, List.length_append]
  exact Nat.le_add_right _ _
/-- How many groups stand whole in the first k bytes: at least m, if m do. -/
theorem wholeF_ex {f : Nat} (bs : List Tx) {k m : Nat} (hm : m ≤ bs.length) (hk : atF f bs m ≤ k) : ∃ n, m ≤ n ∧ n ≤ bs.length ∧ atF f bs n ≤ k ∧ (n < bs.length → k < atF f bs (n + 1)) := by
  have main : ∀ d, m + d ≤ bs.length → ∃ n, m ≤ n ∧ n ≤ m + d ∧ atF f bs n ≤ k ∧ (n < m + d → k < atF f bs (n + 1)) := by
    intro d
    induction d with
    | zero => intro _; exact ⟨m, Nat.le_refl _, Nat.le_refl _, hk, fun h => absurd h (Nat.lt_irrefl _)⟩
    | succ d ih =>
      intro hd
      obtain ⟨n, h0, h1, h2, h3⟩ := ih (by omega)
      by_cases hn : n < m + d
      · exact ⟨n, h0, by omega, h2, fun _ => h3 hn⟩
      · obtain rfl : n = m + d := by omega
        by_cases hk2 : atF f bs (m + d + 1) ≤ k
        · exact ⟨m + d + 1, by omega, Nat.le_refl _, hk2, fun h => absurd h (by omega)⟩
        · exact ⟨m + d, h0, by omega, h2, fun _ => by omega⟩
  obtain ⟨n, h0, h1, h2, h3⟩ := main (bs.length - m) (by omega)
  exact ⟨n, h0, by omega, h2, fun h => h3 (by omega)⟩
/-- What is read of the first k bytes of a log. -/
theorem tornF_tx {f : Nat} (hf : f ≠ 0) {bs : List Tx} {k n : Nat} (hn : n ≤ bs.length) (hat : atF f bs n ≤ k) (hnx : n < bs.length → k < atF f bs (n + 1)) (hk : k ≤ (logF f bs).length) (hb : ∀ b ∈ bs, b.length ≤ maxG) (hl : f + bs.length ≤ 4611686018427387904) (hz : k ≤ 140737488351232) :
    ∃ x torn, LogTx ((logF f bs).take k) f (bs.take n) x (atF f bs n - 16) torn ∧ x.length = k - 16 ∧ (torn = false → k = atF f bs n) := by
  have h16 := atF_ge hf bs n
  have hta : (logF f (bs.take n)).length = atF f bs n := rfl
  have hy := logF_split f bs hn
  obtain ⟨y, hyq⟩ : ∃ y, encAll (grps (f + n) (bs.drop n)) = y := ⟨_, rfl⟩
  have hy0 : n = bs.length → y = [] := fun h => by rw [← hyq, List.drop_of_length_le (by omega)]; rfl
  have hy1 : ∀ b, bs[n]? = some b → ∃ z, y = encL (f + n) b ++ z := fun b hb => by
    have hlt := (List.getElem?_eq_some_iff.1 hb).1
    have hbe := (List.getElem?_eq_some_iff.1 hb).2
    rw [← hyq, List.drop_eq_getElem_cons hlt, hbe]
    exact ⟨encAll (grps (f + n + 1) (bs.drop (n + 1))), by simp [grps, encAll]⟩
  rw [hyq] at hy
  have hcut : (logF f bs).take k = logF f (bs.take n) ++ y.take (k - atF f bs n) := by
    rw [hy, List.take_append, List.take_of_length_le (by omega), hta]
  have hA : (encAll (grps f (bs.take n))).length = atF f bs n - 16 := by
    have : (logF f (bs.take n)).length = 16 + (encAll (grps f (bs.take n))).length := by unfold logF; rw [List.length_append, headT_length hf]
    omega
  have hbt : ∀ b ∈ bs.take n, b.length ≤ maxG := fun b h => hb b (List.mem_of_mem_take h)
  have hlt2 : (bs.take n).length = n := by rw [List.length_take, Nat.min_eq_left hn]
  have eq : (logF f bs).take k = headT f ++ (encAll (grps f (bs.take n)) ++ y.take (k - atF f bs n)) := by rw [hcut]; unfold logF; rw [List.append_assoc]
  have hyl : (y.take (k - atF f bs n)).length = k - atF f bs n := by
    rw [List.length_take]
    have : (logF f bs).length = atF f bs n + y.length := by rw [hy, List.length_append, hta]
    omega
  have hxl : (encAll (grps f (bs.take n)) ++ y.take (k - atF f bs n)).length = k - 16 := by rw [List.length_append, hA, hyl]; omega
  by_cases hm : k = atF f bs n
  · refine ⟨encAll (grps f (bs.take n)) ++ y.take (k - atF f bs n), false, ⟨eq, hf, by rw [hlt2]; omega, ?_, by rw [hxl]; omega⟩, hxl, fun _ => hm⟩
    rw [hm, Nat.sub_self, List.take_zero, List.append_nil]
    have := scan_row hf (l := bs.take n) (by rw [hlt2]; omega) hbt
    rw [this, hA]; rfl
  · have hnl : n < bs.length := by
      rcases Nat.lt_or_ge n bs.length with h | h
      · exact h
      · have := hy0 (by omega)
        rw [this] at hyl
        simp at hyl
        omega
    obtain ⟨b, hbn⟩ : ∃ b, bs[n]? = some b := ⟨_, List.getElem?_eq_getElem hnl⟩
    obtain ⟨z, hz2⟩ := hy1 b hbn
    have hnext := hnx hnl
    have hat1 : atF f bs (n + 1) = atF f bs n + (25 + b.length) := by
      have e : bs.take (n + 1) = bs.take n ++ [b] := by rw [List.take_add_one, hbn]; rfl
      unfold atF
      rw [e, logF_snoc, List.length_append, encL_length]
    have htk : y.take (k - atF f bs n) = (encL (f + n) b).take (k - atF f bs n) := by
      rw [hz2, List.take_append_of_le_length (by rw [encL_length]; omega)]
    refine ⟨encAll (grps f (bs.take n)) ++ y.take (k - atF f bs n), true, ⟨eq, hf, by rw [hlt2]; omega, ?_, by rw [hxl]; omega⟩, hxl, fun h => by cases h⟩
    rw [htk]
    have := scan_torn hf (l := bs.take n) (by rw [hlt2]; omega) hbt (n := f + n) (b := b) (by omega) (by omega) (hb b (List.mem_of_getElem? hbn)) (k := k - atF f bs n) (by omega) (by rw [encL_length]; omega)
    rw [this, hA]; rfl
/-- Bodies one behind the other; a first '=' is passed over. -/
def strip (b : Tx) : Tx := match b with
  | 61 :: r => r
  | _ => b
def wholeB (bs : List Tx) : Tx := bs.flatMap strip
theorem wholeB_snoc (bs : List Tx) (b : Tx) : wholeB (bs ++ [b]) = wholeB bs ++ strip b := by simp [wholeB]
/-- What a log's file is, beside all that was ever asked for: from number f on, these bodies; the first m are synced, and reach lo. -/
structure FileOk (F : Fl) (all : List Tx) (lo f : Nat) (bs : List Tx) (m : Nat) : Prop where
  f0 : f ≠ 0
  text : F.text = (logF f bs).take F.text.length
  long : F.text.length ≤ (logF f bs).length
  sure : atF f bs m ≤ F.sync
  sync : F.sync ≤ F.text.length
  le : m ≤ bs.length
  low : lo ≤ f - 1 + m
  high : f - 1 + bs.length ≤ all.length
  same : ∀ i, m ≤ i → i ≤ bs.length → wholeB (bs.take i) = wholeB (all.take (f - 1 + i))
  bodies : ∀ b ∈ bs, b.length ≤ 33554300
  few : f + bs.length ≤ 4611686018427387904
theorem FileOk.cut {F : Fl} {all : List Tx} {lo f m : Nat} {bs : List Tx} (h : FileOk F all lo f bs m) (zs : List Int) (i : Nat) : FileOk (cut zs i F) all lo f bs m := by
  have hm : leftB zs i F ≤ F.text.length - F.sync := Nat.min_le_right _ _
  have h1 := h.sync
  have h2 := h.long
  have hl : (Pl.cut zs i F).text.length = F.sync + leftB zs i F := by simp only [Pl.cut, List.length_take]; omega
  refine ⟨h.f0, ?_, by rw [hl]; omega, Nat.le_trans h.sure (by show F.sync ≤ F.sync + leftB zs i F; omega), by rw [hl]; exact Nat.le_refl _, h.le, h.low, h.high, h.same, h.bodies, h.few⟩
  rw [hl]
  show F.text.take (F.sync + leftB zs i F) = _
  conv => lhs; rw [h.text]
  rw [List.take_take, Nat.min_eq_left (by omega)]
theorem FileOk.mono {F : Fl} {all : List Tx} {lo lo2 f m : Nat} {bs : List Tx} (h : FileOk F all lo f bs m) (hl : lo2 ≤ lo) : FileOk F all lo2 f bs m := { h with low := Nat.le_trans hl h.low }
/-- More was asked for. -/
theorem FileOk.asked {F : Fl} {all : List Tx} {lo f m : Nat} {bs : List Tx} (h : FileOk F all lo f bs m) (more : List Tx) : FileOk F (all ++ more) lo f bs m := by
  have hh := h.high
  refine { h with high := by rw [List.length_append]; omega, same := fun i h1 h2 => ?_ }
  rw [List.take_append_of_le_length (by omega)]
  exact h.same i h1 h2
end Pl
end Go.Proofs.YtfbjmhipjfjaeaaGreatDoor

namespace Go.Proofs.YtfbjmhipjfjaeaaGreatDoor
open Pl
set_option linter.unusedVariables false
set_option linter.unusedSimpArgs false
namespace Pl
def namesAt (S : Dk) (i : Nat) : Nm := (S.opn.take i).foldl change S.last
def GoodN (files : List Fl) (all : List Tx) (lo : Nat) (l : Nm) : Prop := ∃ g F f bs m, find l logN = some g ∧ files[g]? = some F ∧ FileOk F all lo f bs m
/-- Whatever a crash leaves of the names, the log's file is there and tells what lasts. -/
def Core (S : Dk) (all : List Tx) (lo : Nat) : Prop := ∀ i, i ≤ S.opn.length → GoodN S.files all lo (namesAt S i)
/-- A log that writes: its file g. -/
structure Alive (S : Dk) (L : Lg) (all : List Tx) (g : Nat) (F : Fl) (f : Nat) (bs : List Tx) (m : Nat) : Prop where
  live : L.broken = false
  names : ∀ i, i ≤ S.opn.length → find (namesAt S i) logN = some g
  file : S.files[g]? = some F
  exact : F.text = logF f bs
  last : f - 1 + bs.length = L.last
  allN : all.length = L.last
  size : L.size = F.text.length
  ok : FileOk F all L.lasting f bs m
/-- A log in its life. -/
structure InLife (S : Dk) (L : Lg) (all : List Tx) : Prop where
  inv : S.Inv
  shut : L.shut = false
  low : L.lasting ≤ L.last
  high : L.last ≤ all.length
  core : Core S all L.lasting
  live : L.broken = false → ∃ g F f bs m, Alive S L all g F f bs m
section
variable {S : Dk} {L : Lg} {all : List Tx} {g : Nat} {F : Fl} {f : Nat} {bs : List Tx} {m : Nat}
theorem Alive.core (h : Alive S L all g F f bs m) : Core S all L.lasting := fun i hi => ⟨g, F, f, bs, m, h.names i hi, h.file, h.ok⟩
theorem Alive.inLife (h : Alive S L all g F f bs m) (hI : S.Inv) (hs : L.shut = false) : InLife S L all :=
  ⟨hI, hs, by have := h.ok.low; have := h.ok.le; have := h.last; omega, by rw [h.allN]; exact Nat.le_refl _, h.core, fun _ => ⟨g, F, f, bs, m, h⟩⟩
theorem namesAt_all (hI : S.Inv) : namesAt S S.opn.length = S.names := by unfold namesAt; rw [List.take_length, hI.names]
theorem Alive.found (h : Alive S L all g F f bs m) (hI : S.Inv) : find S.names logN = some g := by rw [← namesAt_all hI]; exact h.names _ (Nat.le_refl _)
theorem Alive.fileOf (h : Alive S L all g F f bs m) (hI : S.Inv) : S.fileOf logN = g := by unfold Dk.fileOf; rw [h.found hI]; rfl
theorem get_modify {α : Type} {l : List α} {k : Nat} {x : α} (fn : α → α) (h : l[k]? = some x) : (l.modify k fn)[k]? = some (fn x) := by
  simp [List.getElem?_modify, h]
theorem get_modify_ne {α : Type} {l : List α} {k i : Nat} (fn : α → α) (h : k ≠ i) : (l.modify k fn)[i]? = l[i]? := by
  simp [List.getElem?_modify, h]
/-- The file's text has grown towards one body more. -/
theorem FileOk.grow (h : FileOk F all L.lasting f bs m) (he : F.text = logF f bs) (hl : f - 1 + bs.length = all.length) (b : Tx) (hb : b.length ≤ 33554300) (hfew : all.length ≤ 4611686018427387000) (k : Nat) :
    FileOk ⟨F.text ++ (encL (all.length + 1) b).take k, F.sync⟩ (all ++ [b]) L.lasting f (bs ++ [b]) m := by
  have hf := h.f0
  have e1 : f + bs.length = all.length + 1 := by omega
  have e2 : logF f (bs ++ [b]) = F.text ++ encL (all.length + 1) b := by rw [logF_snoc, ← he, e1]
  have hm := h.le
  have hs := h.sync
  have hat : atF f (bs ++ [b]) m = atF f bs m := by unfold atF; rw [List.take_append_of_le_length hm]
  refine ⟨hf, ?_, ?_, by rw [hat]; exact h.sure, by simp only [List.length_append]; omega, by rw [List.length_append]; omega, h.low, by simp only [List.length_append, List.length_cons, List.length_nil]; omega, fun i h1 h2 => ?_, fun c hc => ?_, by rw [List.length_append]; simp only [List.length_cons, List.length_nil]; omega⟩
  · rw [e2, List.length_append, List.take_length_add_append, List.length_take]
    congr 1
    rw [Nat.min_def]
    split
    · rfl
    · rw [List.take_length, List.take_of_length_le (by omega)]
  · rw [e2]
    simp only [List.length_append, List.length_take]
    omega
  · rw [List.length_append, List.length_singleton] at h2
    by_cases hi : i ≤ bs.length
    · rw [List.take_append_of_le_length hi, List.take_append_of_le_length (by omega)]
      exact h.same i h1 hi
    · obtain rfl : i = bs.length + 1 := by omega
      have h3 := h.same bs.length hm (Nat.le_refl _)
      rw [List.take_length, hl, List.take_length] at h3
      rw [List.take_of_length_le (by simp), List.take_of_length_le (by rw [List.length_append]; simp; omega), wholeB_snoc, wholeB_snoc, h3]
  · rcases List.mem_append.1 hc with hc | hc
    · exact h.bodies c hc
    · rw [List.mem_singleton.1 hc]; exact hb
theorem Dk.Inv.appendE0 (hI : S.Inv) (h : S.appendE logN = 0) : S.askE logN = 0 ∧ S.faultE = 0 := by
  unfold Dk.appendE at h
  by_cases ha : S.askE logN = 0
  · rw [if_neg (by simpa using ha)] at h; exact ⟨ha, h⟩
  · rw [if_pos (by simpa using ha)] at h; exact absurd h ha
/-- Append was refused. -/
theorem Alive.append_no (h : Alive S L all g F f bs m) (hI : S.Inv) (b : Tx) (hb : b.length ≤ 33554300) (hfew : all.length ≤ 4611686018427387000) : Core (S.appendS logN (encL (all.length + 1) b)) (all ++ [b]) L.lasting := by
  unfold Dk.appendS
  split
  · exact fun i hi => ⟨g, F, f, bs, m, h.names i hi, h.file, h.ok.asked [b]⟩
  · rw [h.fileOf hI]
    intro i hi
    have hl : f - 1 + bs.length = all.length := by rw [h.last, h.allN]
    exact ⟨g, _, f, bs ++ [b], m, h.names i hi, get_modify _ h.file, h.ok.grow h.exact hl b hb hfew _⟩
/-- Append was done. -/
theorem Alive.append_yes (h : Alive S L all g F f bs m) (hI : S.Inv) (b : Tx) (hb : b.length ≤ 33554300) (hfew : all.length ≤ 4611686018427387000) (he : S.appendE logN = 0) :
    Alive (S.appendS logN (encL (all.length + 1) b)) (L.more (encL (all.length + 1) b)) (all ++ [b]) g ⟨F.text ++ encL (all.length + 1) b, F.sync⟩ f (bs ++ [b]) m := by
  obtain ⟨ha, hf0⟩ := hI.appendE0 he
  have hlaid : ∀ s, S.laid s = s.length := fun s => by unfold Dk.laid; rw [if_pos hf0]
  have hl : f - 1 + bs.length = all.length := by rw [h.last, h.allN]
  have hS : S.appendS logN (encL (all.length + 1) b) = S.faultS.setF g fun x => ⟨x.text ++ encL (all.length + 1) b, x.sync⟩ := by
    unfold Dk.appendS
    rw [if_neg (by simpa using ha), h.fileOf hI, hlaid, List.take_length]
  have hg := h.ok.grow h.exact hl b hb hfew (encL (all.length + 1) b).length
  rw [List.take_length] at hg
  have e1 : f + bs.length = all.length + 1 := by have := h.ok.f0; omega
  refine ⟨h.live, by rw [hS]; exact h.names, by rw [hS]; exact get_modify _ h.file, by rw [logF_snoc, ← h.exact, e1], ?_, ?_, ?_, hg⟩
  · rw [List.length_append]; show f - 1 + (bs.length + 1) = L.last + 1; have := h.last; omega
  · rw [List.length_append]; show all.length + 1 = L.last + 1; rw [h.allN]
  · show L.size + ((encL (all.length + 1) b).length : Int) = ((F.text ++ encL (all.length + 1) b).length : Int)
    rw [h.size, List.length_append]; omega
/-- Sync of a log that writes. -/
theorem Alive.synced (h : Alive S L all g F f bs m) (hI : S.Inv) (hs : L.shut = false) :
    InLife (L.synced S).1 (L.synced S).2.1 all ∧ (L.synced S).2.1.last = L.last ∧ L.lasting ≤ (L.synced S).2.1.lasting ∧ ((L.synced S).2.2 = 0 → (L.synced S).2.1.lasting = L.last ∧ (L.synced S).2.1.broken = false) ∧ ((L.synced S).2.2 ≠ 0 → (L.synced S).2.1.broken = true) := by
  have hlow : L.lasting ≤ L.last := (h.inLife hI hs).low
  unfold Lg.synced
  by_cases e : L.lasting = L.last
  · rw [if_pos e]
    exact ⟨h.inLife hI hs, rfl, Nat.le_refl _, fun _ => ⟨e, h.live⟩, fun hx => absurd rfl hx⟩
  · rw [if_neg e]
    by_cases hc : S.appendE logN = 0
    · rw [if_pos hc, hc]
      obtain ⟨ha, hf0⟩ := hI.appendE0 hc
      have hS : S.syncS logN = S.faultS.setF g fun x => ⟨x.text, x.text.length⟩ := by
        unfold Dk.syncS
        rw [if_neg (by simpa using ha), if_neg (by simpa using hf0), h.fileOf hI]
      have hal : Alive (S.syncS logN) { L with lasting := L.last } all g ⟨F.text, F.text.length⟩ f bs bs.length := by
        have hk := h.ok
        refine ⟨h.live, by rw [hS]; exact h.names, by rw [hS]; exact get_modify _ h.file, h.exact, h.last, h.allN, h.size, ?_⟩
        exact ⟨hk.f0, hk.text, hk.long, by rw [atF_all, ← h.exact]; exact Nat.le_refl _, Nat.le_refl _, Nat.le_refl _, by show L.last ≤ _; rw [h.last]; exact Nat.le_refl _, hk.high, fun i h1 h2 => hk.same i (Nat.le_trans hk.le h1) h2, hk.bodies, hk.few⟩
      exact ⟨hal.inLife (hI.syn logN) hs, rfl, hlow, fun _ => ⟨rfl, h.live⟩, fun hx => absurd rfl hx⟩
    · rw [if_neg hc]
      refine ⟨⟨hI.syn logN, hs, hlow, by show L.last ≤ _; rw [h.allN]; exact Nat.le_refl _, ?_, fun hx => by cases hx⟩, rfl, Nat.le_refl _, fun hx => absurd (Int.ofNat.inj hx) hc, fun _ => rfl⟩
      have hc2 := h.core
      unfold Dk.syncS
      split
      · exact hc2
      · next ha =>
        have hf : S.faultE ≠ 0 := by
          unfold Dk.appendE at hc
          rw [if_neg ha] at hc
          exact hc
        rw [if_pos hf]
        exact hc2
/-- Append in a log's life. -/
theorem InLife.append (h : InLife S L all) (hlive : L.broken = false) (b : Tx) (hb : b.length ≤ 33554300) (hfew : all.length ≤ 4611686018427387000) :
    all.length = L.last ∧ InLife (L.append S b).1 (L.append S b).2.1 (all ++ [b]) ∧ L.lasting ≤ (L.append S b).2.1.lasting ∧
    ((L.append S b).2.2.2 = 0 → (L.append S b).2.2.1 = L.last + 1 ∧ (L.append S b).2.1.last = L.last + 1 ∧ (L.append S b).2.1.broken = false ∧ (L.pol = 1 → (L.append S b).2.1.lasting = L.last + 1)) ∧
    ((L.append S b).2.2.2 ≠ 0 → (L.append S b).2.2.1 = 0 ∧ (L.append S b).2.1.broken = true) := by
  obtain ⟨g, F, f, bs, m, ha⟩ := h.live hlive
  have hdead : L.dead = false := by unfold Lg.dead; rw [hlive, h.shut]; rfl
  have hal := ha.allN
  refine ⟨hal, ?_⟩
  unfold Lg.append
  rw [if_neg (by rw [hdead]; decide)]
  simp only
  rw [show encL (L.last + 1) b = encL (all.length + 1) b by rw [hal]]
  by_cases hc : S.appendE logN = 0
  · rw [if_neg (by simpa using hc)]
    have h1 := ha.append_yes h.inv b hb hfew hc
    have hI1 := h.inv.append logN (encL (all.length + 1) b)
    by_cases hd : (L.more (encL (all.length + 1) b)).due = true
    · rw [if_pos hd]
      obtain ⟨s1, s2, s3, s4, s5⟩ := h1.synced hI1 h.shut
      have hml : (L.more (encL (all.length + 1) b)).last = L.last + 1 := rfl
      rw [hml] at s2 s4
      refine ⟨s1, s3, fun hx => ?_, fun hx => ?_⟩
      · have := s4 hx
        simp only at hx ⊢
        rw [if_pos hx]
        exact ⟨by omega, by rw [s2], this.2, fun _ => by rw [this.1]⟩
      · simp only at hx ⊢
        rw [if_neg hx]
        exact ⟨rfl, s5 hx⟩
    · rw [if_neg hd]
      refine ⟨h1.inLife hI1 h.shut, Nat.le_refl _, fun _ => ⟨rfl, by show L.last + 1 = _; omega, hlive, fun hp => ?_⟩, fun hx => absurd rfl hx⟩
      exfalso
      apply hd
      unfold Lg.due
      rw [show (L.more (encL (all.length + 1) b)).pol = L.pol from rfl, hp]
      rfl
  · rw [if_pos (by simpa using hc)]
    refine ⟨⟨h.inv.append _ _, h.shut, h.low, by show L.last ≤ _; rw [List.length_append, hal]; omega, ha.append_no h.inv b hb hfew, fun hx => by cases hx⟩, Nat.le_refl _, fun hx => absurd (Int.ofNat.inj hx) hc, fun _ => ⟨rfl, rfl⟩⟩
end
end Pl
end Go.Proofs.YtfbjmhipjfjaeaaGreatDoor

namespace Go.Proofs.YtfbjmhipjfjaeaaGreatDoor
open Pl
set_option linter.unusedVariables false
set_option linter.unusedSimpArgs false
namespace Pl
section
variable {S : Dk} {L : Lg} {all : List Tx} {g : Nat} {F : Fl} {f : Nat} {bs : List Tx} {m : Nat}
theorem tl_ne : tempN ≠ logN := by decide
/-- The log's file is not touched. -/
def Same (S S2 : Dk) (g : Nat) : Prop := (∀ i, i ≤ S2.opn.length → find (namesAt S2 i) logN = some g) ∧ S2.files[g]? = S.files[g]?
theorem Alive.same (h : Alive S L all g F f bs m) : Same S S g := ⟨h.names, rfl⟩
theorem Alive.to {S2 : Dk} (h : Alive S L all g F f bs m) (hs : Same S S2 g) : Alive S2 L all g F f bs m := { h with names := hs.1, file := hs.2.trans h.file }
theorem namesAt_turn (S : Dk) (c : Ch) {i : Nat} (hi : i ≤ S.opn.length) : namesAt (S.turn c) i = namesAt S i := by
  show ((S.opn ++ [c]).take i).foldl change S.last = _
  rw [List.take_append_of_le_length hi]
  rfl
theorem namesAt_turned (hI : S.Inv) (c : Ch) : namesAt (S.turn c) (S.opn.length + 1) = change S.names c := by
  show ((S.opn ++ [c]).take (S.opn.length + 1)).foldl change S.last = _
  rw [List.take_of_length_le (by simp), List.foldl_append, hI.names]
  rfl
theorem Same.turn {S2 : Dk} {c : Ch} (h : Same S S2 g) (hI : S2.Inv) (hc : find (change S2.names c) logN = find S2.names logN) : Same S (S2.turn c) g := by
  refine ⟨fun i hi => ?_, h.2⟩
  have hi : i ≤ S2.opn.length + 1 := by have : (S2.turn c).opn.length = S2.opn.length + 1 := by simp [Dk.turn]
                                        omega
  by_cases h1 : i ≤ S2.opn.length
  · rw [namesAt_turn S2 c h1]; exact h.1 i h1
  · obtain rfl : i = S2.opn.length + 1 := by omega
    rw [namesAt_turned hI, hc]
    have := h.1 _ (Nat.le_refl _)
    rw [namesAt_all hI] at this
    exact this
theorem change_temp1 (l : Nm) (n : Nat) : find (change l ⟨1, tempN, [], n⟩) logN = find l logN := by
  show find (wi l tempN n) logN = _
  rw [find_wi, if_neg (fun e => tl_ne e.symm)]
theorem change_temp3 (l : Nm) : find (change l ⟨3, tempN, [], 0⟩) logN = find l logN := by
  show find (wo l tempN) logN = _
  rw [find_wo, if_neg (fun e => tl_ne e.symm)]
/-- Create of the other name. -/
theorem Same.create {S2 : Dk} (h : Same S S2 g) (hI : S2.Inv) (hg : g < S2.files.length) : Same S (S2.createS tempN) g := by
  unfold Dk.createS
  split
  · exact h
  · split
    · exact h
    · have h1 : Same S ({ S2.faultS with files := S2.files ++ [⟨[], 0⟩] } : Dk) g := ⟨h.1, by
        show (S2.files ++ [⟨[], 0⟩])[g]? = _
        rw [List.getElem?_append_left hg]; exact h.2⟩
      have hI1 : ({ S2.faultS with files := S2.files ++ [⟨[], 0⟩] } : Dk).Inv := by
        refine ⟨?_, ?_, hI.names, hI.plan, fun f hf => ?_⟩
        · have := hI.last
          exact ⟨this.ris, this.inj, fun p hp => by have := this.lt p hp; simp; omega⟩
        · exact hI.snd.mono (by simp)
        · rcases List.mem_append.1 hf with hf | hf
          · exact hI.sync f hf
          · rw [List.mem_singleton.1 hf]; exact Nat.le_refl _
      exact h1.turn hI1 (change_temp1 _ _)
theorem Same.remove {S2 : Dk} (h : Same S S2 g) (hI : S2.Inv) : Same S (S2.removeS tempN) g := by
  unfold Dk.removeS
  split
  · exact h
  · split
    · exact h
    · exact Same.turn (S2 := S2.faultS) h hI.fault (change_temp3 _)
theorem Same.setF {S2 : Dk} (h : Same S S2 g) {k : Nat} (hk : k ≠ g) (fn : Fl → Fl) : Same S (S2.setF k fn) g := ⟨h.1, (get_modify_ne fn hk).trans h.2⟩
theorem Same.append {S2 : Dk} (h : Same S S2 g) (hk : S2.askE tempN = 0 → S2.fileOf tempN ≠ g) (s : Tx) : Same S (S2.appendS tempN s) g := by
  unfold Dk.appendS
  split
  · exact h
  · next ha => exact Same.setF (S2 := S2.faultS) h (hk (by simpa using ha)) _
theorem Same.sync {S2 : Dk} (h : Same S S2 g) (hk : S2.askE tempN = 0 → S2.fileOf tempN ≠ g) : Same S (S2.syncS tempN) g := by
  unfold Dk.syncS
  split
  · exact h
  · next ha =>
    split
    · exact h
    · exact Same.setF (S2 := S2.faultS) h (hk (by simpa using ha)) _
theorem find_askE {S : Dk} {n : Tx} {h : Nat} (hf : find S.names n = some h) (ha : S.askE n = 0) : S.fileOf n = h := by unfold Dk.fileOf; rw [hf]; rfl
/-- The four steps of Rewrite: refused somewhere, the log's file is as it was; else the new file has its name. -/
theorem Alive.steps (h : Alive S L all g F f bs m) (hI : S.Inv) (s : Tx) :
    ((goL [.create tempN, .append tempN s, .sync tempN, .rename tempN logN] S).2 ≠ 0 → Same S (goL [.create tempN, .append tempN s, .sync tempN, .rename tempN logN] S).1 g) ∧
    ((goL [.create tempN, .append tempN s, .sync tempN, .rename tempN logN] S).2 = 0 → ∃ S3 k, S3.Inv ∧ Same S S3 g ∧ S3.files[k]? = some ⟨s, s.length⟩ ∧ find S3.names tempN = some k ∧ (goL [.create tempN, .append tempN s, .sync tempN, .rename tempN logN] S).1 = S3.faultS.turn ⟨2, tempN, logN, k⟩) := by
  have hgl : g < S.files.length := (List.getElem?_eq_some_iff.1 h.file).1
  have s1 := h.same.create hI hgl
  have i1 := hI.create tempN
  unfold goL
  by_cases c1 : Stp.e (.create tempN) S = 0
  case neg => rw [if_neg c1]; exact ⟨fun _ => s1, fun hx => absurd hx c1⟩
  rw [if_pos c1]
  have c1' : S.createE tempN = 0 := Int.ofNat.inj c1
  -- what Create made
  obtain ⟨k, hk, hfk, hkg⟩ : ∃ k, find (S.createS tempN).names tempN = some k ∧ (S.createS tempN).files[k]? = some ⟨[], 0⟩ ∧ k ≠ g := by
    unfold Dk.createE at c1'
    by_cases a0 : S.askE tempN = 0
    · rw [if_pos a0] at c1'; cases c1'
    rw [if_neg a0] at c1'
    by_cases a1 : S.askE tempN ≠ 50
    · rw [if_pos a1] at c1'; exact absurd c1' a0
    rw [if_neg a1] at c1'
    unfold Dk.createS
    rw [if_neg a1, if_neg (by rw [c1']; decide)]
    refine ⟨S.files.length, ?_, ?_, by omega⟩
    · show find (change S.names ⟨1, tempN, [], S.files.length⟩) tempN = _
      show find (wi S.names tempN S.files.length) tempN = _
      rw [find_wi, if_pos rfl]
    · show (S.files ++ [⟨[], 0⟩])[S.files.length]? = _
      rw [List.getElem?_append_right (Nat.le_refl _), Nat.sub_self]; rfl
  have hS1 : Stp.f (.create tempN) S = S.createS tempN := rfl
  rw [hS1]
  generalize S.createS tempN = S1 at *
  have s2 := s1.append (fun ha => by rw [find_askE hk ha]; exact hkg) s
  have i2 := i1.append tempN s
  unfold goL
  by_cases c2 : Stp.e (.append tempN s) S1 = 0
  case neg => rw [if_neg c2]; exact ⟨fun _ => s2, fun hx => absurd hx c2⟩
  rw [if_pos c2]
  have c2' : S1.appendE tempN = 0 := Int.ofNat.inj c2
  obtain ⟨hk2, hfk2⟩ : find (S1.appendS tempN s).names tempN = some k ∧ (S1.appendS tempN s).files[k]? = some ⟨s, 0⟩ := by
    unfold Dk.appendE at c2'
    by_cases a0 : S1.askE tempN = 0
    · rw [if_neg (by simpa using a0)] at c2'
      unfold Dk.appendS
      rw [if_neg (by simpa using a0), find_askE hk a0]
      refine ⟨hk, ?_⟩
      have := get_modify (fun x : Fl => ⟨x.text ++ s.take (S1.laid s), x.sync⟩) hfk
      unfold Dk.laid at this
      rw [if_pos c2', List.take_length, List.nil_append] at this
      unfold Dk.laid
      rw [if_pos c2', List.take_length]
      exact this
    · rw [if_pos (by simpa using a0)] at c2'; exact absurd c2' a0
  have hS2 : Stp.f (.append tempN s) S1 = S1.appendS tempN s := rfl
  rw [hS2]
  generalize S1.appendS tempN s = S2 at *
  have s3 := s2.sync (fun ha => by rw [find_askE hk2 ha]; exact hkg)
  have i3 := i2.syn tempN
  unfold goL
  by_cases c3 : Stp.e (.sync tempN) S2 = 0
  case neg => rw [if_neg c3]; exact ⟨fun _ => s3, fun hx => absurd hx c3⟩
  rw [if_pos c3]
  have c3' : S2.appendE tempN = 0 := Int.ofNat.inj c3
  obtain ⟨hk3, hfk3⟩ : find (S2.syncS tempN).names tempN = some k ∧ (S2.syncS tempN).files[k]? = some ⟨s, s.length⟩ := by
    unfold Dk.appendE at c3'
    by_cases a0 : S2.askE tempN = 0
    · rw [if_neg (by simpa using a0)] at c3'
      unfold Dk.syncS
      rw [if_neg (by simpa using a0), if_neg (by simpa using c3'), find_askE hk2 a0]
      exact ⟨hk2, get_modify (fun x : Fl => ⟨x.text, x.text.length⟩) hfk2⟩
    · rw [if_pos (by simpa using a0)] at c3'; exact absurd c3' a0
  have hS3 : Stp.f (.sync tempN) S2 = S2.syncS tempN := rfl
  rw [hS3]
  generalize S2.syncS tempN = S3 at *
  rw [goL1]
  have hren : Stp.f (.rename tempN logN) S3 = S3.renameS tempN logN := rfl
  have hrec : Stp.e (.rename tempN logN) S3 = (S3.renameE tempN logN : Int) := rfl
  simp only [hren, hrec]
  refine ⟨fun hx => ?_, fun hx => ?_⟩
  · unfold Dk.renameS
    split
    · exact s3
    · next ha =>
      split
      · exact s3
      · next hb =>
        exfalso
        apply hx
        have ha0 : S3.askE tempN = 0 := Classical.byContradiction fun hq => ha (.inr hq)
        have hf0 : S3.faultE = 0 := Classical.byContradiction fun hq => hb (.inl hq)
        have hd := (askE_ok ha0).1
        unfold Dk.renameE Dk.appendE
        rw [if_neg (by rw [hd]; decide), if_neg (by decide), if_neg (by simpa using ha0), hf0]
        rfl
  · have hx : S3.renameE tempN logN = 0 := Int.ofNat.inj hx
    unfold Dk.renameE at hx
    by_cases hd : S3.down = true
    · rw [if_pos hd] at hx; cases hx
    rw [if_neg hd, if_neg (by decide)] at hx
    unfold Dk.appendE at hx
    by_cases ha : S3.askE tempN = 0
    case neg => rw [if_pos (by simpa using ha)] at hx; exact absurd hx ha
    rw [if_neg (by simpa using ha)] at hx
    refine ⟨S3, k, i3, s3, hfk3, hk3, ?_⟩
    unfold Dk.renameS
    rw [if_neg (by rintro (hq | hq); exact absurd hq (by decide); exact hq ha), if_neg (by rintro (hq | hq); exact hq hx; exact tl_ne hq), find_askE hk3 ha]
theorem strip_eq (t : Tx) : strip (61 :: t) = t := rfl
/-- Rewrite of a log that writes, with all that was asked for. -/
theorem InLife.rewrite (h : InLife S L all) (hlive : L.broken = false) (hb : (wholeB all).length ≤ 33554299) (hfew : all.length ≤ 4611686018427387000) :
    InLife (L.rewrite S (61 :: wholeB all)).1 (L.rewrite S (61 :: wholeB all)).2.1 all ∧ L.lasting ≤ (L.rewrite S (61 :: wholeB all)).2.1.lasting ∧ (L.rewrite S (61 :: wholeB all)).2.1.last = L.last ∧
    (L.lasting = L.last → (L.rewrite S (61 :: wholeB all)).2.1.broken = false → (L.rewrite S (61 :: wholeB all)).2.1.lasting = L.last) := by
  obtain ⟨g, F, f, bs, m, ha⟩ := h.live hlive
  have hdead : L.dead = false := by unfold Lg.dead; rw [hlive, h.shut]; rfl
  have hal := ha.allN
  obtain ⟨s, hs⟩ : ∃ s, L.anew (61 :: wholeB all) = s := ⟨_, rfl⟩
  -- the new file
  obtain ⟨f2, bs2, m2, ok2⟩ : ∃ f2 bs2 m2, FileOk ⟨s, s.length⟩ all L.last f2 bs2 m2 ∧ s = logF f2 bs2 ∧ f2 - 1 + bs2.length = L.last := by
    by_cases hz : L.last = 0
    · have e : s = logF 1 [] := by rw [← hs]; unfold Lg.anew; rw [if_pos hz]; unfold logF; simp [grps, encAll]
      refine ⟨1, [], 0, ⟨by decide, by rw [e]; simp, by rw [e]; exact Nat.le_refl _, ?_, Nat.le_refl _, Nat.le_refl _, by omega, Nat.zero_le _, fun i h1 h2 => ?_, fun b hb => (by cases hb), by decide⟩, e, by rw [hz]; rfl⟩
      · show (logF 1 ([].take 0)).length ≤ s.length
        rw [e]; exact Nat.le_refl _
      · obtain rfl : i = 0 := by simpa using h2
        rfl
    · have e : s = logF L.last [61 :: wholeB all] := by rw [← hs]; unfold Lg.anew; rw [if_neg hz]; unfold logF; simp [grps, encAll]
      refine ⟨L.last, [61 :: wholeB all], 1, ⟨hz, by rw [e]; simp, by rw [e]; exact Nat.le_refl _, ?_, Nat.le_refl _, Nat.le_refl _, by omega, by rw [hal]; simp only [List.length_singleton]; omega, fun i h1 h2 => ?_, fun b hb2 => ?_, by simp only [List.length_singleton]; omega⟩, e, by simp only [List.length_singleton]; omega⟩
      · show (logF L.last ([61 :: wholeB all].take 1)).length ≤ s.length
        rw [e]; exact Nat.le_refl _
      · obtain rfl : i = 1 := by simp only [List.length_singleton] at h2; omega
        have e2 : L.last - 1 + 1 = all.length := by omega
        rw [e2, List.take_length]
        show strip (61 :: wholeB all) ++ [] = _
        rw [strip_eq, List.append_nil]
      · rw [List.mem_singleton.1 hb2]
        simp only [List.length_cons]; omega
  obtain ⟨ok2, e2, hl2⟩ := ok2
  obtain ⟨st1, st2⟩ := ha.steps h.inv s
  have iG := goL_inv (L.steps (61 :: wholeB all)) h.inv
  unfold Lg.rewrite
  rw [if_neg (by rw [hdead]; decide)]
  unfold Lg.steps at iG ⊢
  rw [hs] at iG ⊢
  generalize goL [.create tempN, .append tempN s, .sync tempN, .rename tempN logN] S = G at *
  by_cases hc : G.2 = 0
  · rw [if_neg (by simpa using hc)]
    obtain ⟨S3, k, i3, s3, hfk, hfn, hG⟩ := st2 hc
    have hnew : find (change S3.faultS.names ⟨2, tempN, logN, k⟩) logN = some k := by
      show find (wi (wo S3.names tempN) logN k) logN = _
      rw [find_wi, if_pos rfl]
    have i3f := i3.fault
    -- what a crash may leave
    have hcore : Core G.1 all L.lasting := by
      rw [hG]
      intro i hi
      have hi : i ≤ S3.opn.length + 1 := by have : (S3.faultS.turn ⟨2, tempN, logN, k⟩).opn.length = S3.opn.length + 1 := by simp [Dk.turn, Dk.faultS]
                                            omega
      by_cases h1 : i ≤ S3.opn.length
      · refine ⟨g, F, f, bs, m, ?_, s3.2.trans ha.file, ha.ok⟩
        rw [namesAt_turn S3.faultS _ h1]
        exact s3.1 i h1
      · obtain rfl : i = S3.opn.length + 1 := by omega
        refine ⟨k, _, f2, bs2, m2, ?_, hfk, ok2.mono h.low⟩
        have := namesAt_turned i3f ⟨2, tempN, logN, k⟩
        exact (congrArg (fun l => find l logN) this).trans hnew
    by_cases hn : G.1.namesE = 0
    · rw [if_neg (by simpa using hn)]
      refine ⟨?_, h.low, rfl, fun _ _ => rfl⟩
      have hnn : G.1.names = change S3.faultS.names ⟨2, tempN, logN, k⟩ := by rw [hG]; rfl
      have hff : G.1.files[k]? = some ⟨s, s.length⟩ := by rw [hG]; exact hfk
      have hS5 : G.1.namesS = { G.1.faultS with last := G.1.names, opn := [] } := by
        unfold Dk.namesE at hn
        unfold Dk.namesS
        by_cases hd : G.1.down = true
        · rw [if_pos hd] at hn; cases hn
        · rw [if_neg hd] at hn
          rw [if_neg hd, if_neg (by simpa using hn)]
      have hal5 : Alive G.1.namesS { L with size := s.length, lasting := L.last } all k ⟨s, s.length⟩ f2 bs2 m2 := by
        refine ⟨hlive, fun i hi => ?_, by rw [hS5]; exact hff, e2, hl2, hal, rfl, ok2⟩
        rw [hS5] at hi ⊢
        have h0 : i = 0 := by simpa using hi
        subst h0
        show find G.1.names logN = _
        rw [hnn]; exact hnew
      exact hal5.inLife iG.syncNames h.shut
    · rw [if_pos (by simpa using hn)]
      refine ⟨⟨iG.syncNames, h.shut, h.low, h.high, ?_, fun hx => by cases hx⟩, Nat.le_refl _, rfl, fun _ hx => by cases hx⟩
      show Core G.1.namesS all L.lasting
      unfold Dk.namesE at hn
      unfold Dk.namesS
      by_cases hd : G.1.down = true
      · rw [if_pos hd]; exact hcore
      · rw [if_neg hd] at hn
        rw [if_neg hd, if_pos hn]
        exact hcore
  · rw [if_pos (by simpa using hc)]
    have sG := st1 hc
    refine ⟨?_, Nat.le_refl _, rfl, fun hx _ => hx⟩
    simp only
    split
    · exact (ha.to (sG.remove iG)).inLife (iG.remove tempN) h.shut
    · exact (ha.to sG).inLife iG h.shut
end
end Pl
end Go.Proofs.YtfbjmhipjfjaeaaGreatDoor

namespace Go.Proofs.YtfbjmhipjfjaeaaGreatDoor
open Pl
set_option linter.unusedVariables false
set_option linter.unusedSimpArgs false
namespace Pl
/-- A disk that refuses nothing, with a log's file. -/
structure Found (S : Dk) (all : List Tx) (lo g : Nat) (F : Fl) (f : Nat) (bs : List Tx) (m : Nat) : Prop where
  plan : S.plan = []
  up : S.down = false
  name : find S.names logN = some g
  file : S.files[g]? = some F
  ok : FileOk F all lo f bs m
theorem cutAll_ok (zs : List Int) (all : List Tx) (lo f : Nat) (bs : List Tx) (m g : Nat) : ∀ (l : Nm) (i : Nat) (fs : List Fl), (∃ F, fs[g]? = some F ∧ FileOk F all lo f bs m) → ∃ F, (cutAll zs l i fs)[g]? = some F ∧ FileOk F all lo f bs m
  | [], _, _, h => h
  | p :: r, i, fs, ⟨F, h1, h2⟩ => by
    unfold cutAll
    refine cutAll_ok zs all lo f bs m g r (i + 1) _ ?_
    by_cases hp : p.2 = g
    · rw [hp]; exact ⟨_, get_modify _ h1, h2.cut zs i⟩
    · exact ⟨F, (get_modify_ne _ hp).trans h1, h2⟩
/-- What a crash leaves. -/
theorem Core.crash {S : Dk} {all : List Tx} {lo : Nat} (h : Core S all lo) (k : Int) (zs : List Int) : ∃ g F f bs m, Found (S.crashS k zs) all lo g F f bs m := by
  have e : ∃ i, i ≤ S.opn.length ∧ S.left k = namesAt S i := by
    by_cases hk : k.toNat ≤ S.opn.length
    · exact ⟨k.toNat, hk, rfl⟩
    · refine ⟨S.opn.length, Nat.le_refl _, ?_⟩
      unfold Dk.left namesAt
      rw [List.take_of_length_le (by omega), List.take_length]
  obtain ⟨i, hi, e⟩ := e
  obtain ⟨g, F, f, bs, m, h1, h2, h3⟩ := h i hi
  obtain ⟨F2, h4, h5⟩ := cutAll_ok zs all lo f bs m g (S.left k) 0 S.files ⟨F, h2, h3⟩
  exact ⟨g, F2, f, bs, m, rfl, rfl, by show find (S.left k) logN = _; rw [e]; exact h1, h4, h5⟩
/-- No crash: the plan is struck. -/
theorem Core.calm {S : Dk} {all : List Tx} {lo : Nat} (h : Core S all lo) (hI : S.Inv) (hd : S.down = false) : ∃ g F f bs m, Found (S.planS []) all lo g F f bs m := by
  obtain ⟨g, F, f, bs, m, h1, h2, h3⟩ := h _ (Nat.le_refl _)
  rw [namesAt_all hI] at h1
  have e : S.planS [] = { S with plan := [] } := by unfold Dk.planS; rw [if_pos ⟨by simp, rfl⟩]
  rw [e]
  exact ⟨g, F, f, bs, m, rfl, hd, h1, h2, h3⟩
theorem Alive.calm {S : Dk} {L : Lg} {all : List Tx} {g : Nat} {F : Fl} {f : Nat} {bs : List Tx} {m : Nat} (h : Alive S L all g F f bs m) (hI : S.Inv) (hd : S.down = false) : Found (S.planS []) all L.lasting g F f bs m := by
  have e : S.planS [] = { S with plan := [] } := by unfold Dk.planS; rw [if_pos ⟨by simp, rfl⟩]
  rw [e]
  exact ⟨rfl, hd, h.found hI, h.file, h.ok⟩
section
variable {S : Dk} {all : List Tx} {lo g : Nat} {F : Fl} {f : Nat} {bs : List Tx} {m : Nat}
theorem noPlan_fault (h : S.plan = []) : S.faultE = 0 ∧ S.hit = none := by
  have : S.hit = none := by unfold Dk.hit; rw [h]; rfl
  exact ⟨by unfold Dk.faultE; rw [this], this⟩
theorem faultS_up (h : S.plan = []) (hd : S.down = false) : S.faultS = { S with steps := S.steps + 1 } := by
  unfold Dk.faultS
  rw [(noPlan_fault h).2, hd]
  simp only [Bool.or_false]
/-- The other name is struck. -/
theorem Found.clean (h : Found S all lo g F f bs m) : (clean S).2 = 0 ∧ Found (clean S).1 all lo g F f bs m := by
  unfold Pl.clean
  split
  · next ht =>
    have hmem : tempN ∈ keys S.names := by
      unfold Dk.hasN at ht
      rw [if_neg (by rw [h.up]; decide)] at ht
      exact of_decide_eq_true ht
    have hask : S.askE tempN = 0 := by
      unfold Dk.askE
      rw [if_neg (by rw [h.up]; decide), if_neg (by decide)]
      obtain ⟨p, hp, hpe⟩ := List.mem_map.1 hmem
      cases hfn : find S.names tempN with
      | some x => rfl
      | none =>
        exfalso
        have : ∀ l : Nm, (∃ p ∈ l, p.1 = tempN) → find l tempN ≠ none := by
          intro l
          induction l with
          | nil => rintro ⟨p, hp, -⟩; cases hp
          | cons q r ih =>
            rintro ⟨p, hp, he⟩
            unfold find
            split
            · simp
            · next hq =>
              rcases List.mem_cons.1 hp with rfl | hp
              · exact absurd he hq
              · exact ih ⟨p, hp, he⟩
        exact this S.names ⟨p, hp, hpe⟩ hfn
    have hf := noPlan_fault h.plan
    have hu := faultS_up h.plan h.up
    have hrm : S.removeS tempN = ({ S with steps := S.steps + 1 } : Dk).turn ⟨3, tempN, [], 0⟩ := by
      unfold Dk.removeS
      rw [if_neg (by simpa using hask), if_neg (by rw [hf.1]; decide), hu]
    have hrmE : Stp.e (.remove tempN) S = 0 := by
      show ((S.appendE tempN : Nat) : Int) = 0
      unfold Dk.appendE
      rw [if_neg (by simpa using hask), hf.1]; rfl
    have e1 : Stp.f (.remove tempN) S = ({ S with steps := S.steps + 1 } : Dk).turn ⟨3, tempN, [], 0⟩ := hrm
    unfold goL
    rw [if_pos hrmE, e1, goL1]
    obtain ⟨S1, hS1⟩ : ∃ S1, ({ S with steps := S.steps + 1 } : Dk).turn ⟨3, tempN, [], 0⟩ = S1 := ⟨_, rfl⟩
    have hp1 : S1.plan = [] := by rw [← hS1]; exact h.plan
    have hd1 : S1.down = false := by rw [← hS1]; exact h.up
    have hn1 : find S1.names logN = some g := by rw [← hS1]; exact (change_temp3 S.names).trans h.name
    have hf1 : S1.files[g]? = some F := by rw [← hS1]; exact h.file
    rw [hS1]
    have hnE : S1.namesE = 0 := by unfold Dk.namesE; rw [if_neg (by rw [hd1]; decide), (noPlan_fault hp1).1]
    have hnS : S1.namesS = { S1.faultS with last := S1.names, opn := [] } := by unfold Dk.namesS; rw [if_neg (by rw [hd1]; decide), if_neg (by rw [(noPlan_fault hp1).1]; decide)]
    refine ⟨by show ((S1.namesE : Nat) : Int) = 0; rw [hnE]; rfl, ?_⟩
    show Found S1.namesS all lo g F f bs m
    rw [hnS, faultS_up hp1 hd1]
    exact ⟨hp1, hd1, hn1, hf1, h.ok⟩
  · exact ⟨rfl, h⟩
theorem Found.reads (h : Found S all lo g F f bs m) : S.hasN logN = true ∧ S.askE logN = 0 ∧ S.fileOf logN = g ∧ S.readT logN = F.text ∧ S.readN logN = F.sync ∧ S.faultE = 0 ∧ S.faultS = { S with steps := S.steps + 1 } := by
  have h2 : S.askE logN = 0 := by unfold Dk.askE; rw [if_neg (by rw [h.up]; decide), if_neg (by decide), h.name]
  have h3 : S.fileOf logN = g := by unfold Dk.fileOf; rw [h.name]; rfl
  refine ⟨?_, h2, h3, ?_, ?_, (noPlan_fault h.plan).1, faultS_up h.plan h.up⟩
  · unfold Dk.hasN
    rw [if_neg (by rw [h.up]; decide)]
    exact decide_eq_true (List.mem_map.2 ⟨_, find_mem h.name, rfl⟩)
  · unfold Dk.readT; rw [if_pos h2, h3, h.file]
  · unfold Dk.readN; rw [if_pos h2, h3, h.file]
/-- One step on the log's file. -/
theorem Found.trunc (h : Found S all lo g F f bs m) (k : Int) : S.appendE logN = 0 ∧ S.truncS logN k = { S with steps := S.steps + 1, files := S.files.modify g fun x => ⟨x.text.take k.toNat, min x.sync k.toNat⟩ } := by
  obtain ⟨-, h2, h3, -, -, h6, h7⟩ := h.reads
  refine ⟨by unfold Dk.appendE; rw [if_neg (by simpa using h2), h6], ?_⟩
  unfold Dk.truncS
  rw [if_neg (by simpa using h2), if_neg (by rw [h6]; decide), h3, h7]
  rfl
theorem Found.sync (h : Found S all lo g F f bs m) : S.appendE logN = 0 ∧ S.syncS logN = { S with steps := S.steps + 1, files := S.files.modify g fun x => ⟨x.text, x.text.length⟩ } := by
  obtain ⟨-, h2, h3, -, -, h6, h7⟩ := h.reads
  refine ⟨by unfold Dk.appendE; rw [if_neg (by simpa using h2), h6], ?_⟩
  unfold Dk.syncS
  rw [if_neg (by simpa using h2), if_neg (by rw [h6]; decide), h3, h7]
  rfl
theorem noPlan_names (hp : S.plan = []) (hd : S.down = false) : S.namesE = 0 ∧ S.namesS = { S with steps := S.steps + 1, last := S.names, opn := [] } := by
  refine ⟨by unfold Dk.namesE; rw [if_neg (by rw [hd]; decide), (noPlan_fault hp).1], ?_⟩
  unfold Dk.namesS
  rw [if_neg (by rw [hd]; decide), if_neg (by rw [(noPlan_fault hp).1]; decide), faultS_up hp hd]
/-- What read leaves: the file cut to its whole groups, synced, its name lasting. -/
theorem Found.rdLong (h : Found S all lo g F f bs m) (pos : Nat) (torn : Bool) (hc : torn = false → F.text.length = 16 + pos) (hl : 16 + pos ≤ F.text.length) :
    ∃ R, rdLong S F.text.length pos torn = (R, 0) ∧ R.plan = [] ∧ R.down = false ∧ R.opn = [] ∧ R.last = R.names ∧ find R.names logN = some g ∧ R.files[g]? = some ⟨F.text.take (16 + pos), 16 + pos⟩ := by
  have hlen : (F.text.take (16 + pos)).length = 16 + pos := by rw [List.length_take]; omega
  have key : ∃ S1, rdSync S F.text.length pos torn = (S1, 0) ∧ S1.plan = [] ∧ S1.down = false ∧ find S1.names logN = some g ∧ S1.files[g]? = some ⟨F.text.take (16 + pos), 16 + pos⟩ := by
    unfold rdSync
    cases torn with
    | true =>
      rw [if_pos rfl]
      obtain ⟨t1, t2⟩ := h.trunc ((16 + pos : Nat) : Int)
      have hnat : (((16 + pos : Nat) : Int)).toNat = 16 + pos := rfl
      rw [hnat] at t2
      have hF1 : (S.truncS logN ((16 + pos : Nat) : Int)).files[g]? = some ⟨F.text.take (16 + pos), min F.sync (16 + pos)⟩ := by rw [t2]; exact get_modify _ h.file
      have hp1 : (S.truncS logN ((16 + pos : Nat) : Int)).plan = [] := by rw [t2]; exact h.plan
      have hd1 : (S.truncS logN ((16 + pos : Nat) : Int)).down = false := by rw [t2]; exact h.up
      have hn1 : find (S.truncS logN ((16 + pos : Nat) : Int)).names logN = some g := by rw [t2]; exact h.name
      unfold goL
      rw [if_pos (show Stp.e (.trunc logN ((16 + pos : Nat) : Int)) S = 0 by show ((S.appendE logN : Nat) : Int) = 0; rw [t1]; rfl), goL1]
      show ∃ S1, (Stp.f (.sync logN) (S.truncS logN ((16 + pos : Nat) : Int)), Stp.e (.sync logN) (S.truncS logN ((16 + pos : Nat) : Int))) = (S1, 0) ∧ _
      generalize S.truncS logN ((16 + pos : Nat) : Int) = S1 at *
      have h2 : S1.askE logN = 0 := by unfold Dk.askE; rw [if_neg (by rw [hd1]; decide), if_neg (by decide), hn1]
      have h3 : S1.fileOf logN = g := by unfold Dk.fileOf; rw [hn1]; rfl
      have h6 := (noPlan_fault hp1).1
      have h7 := faultS_up hp1 hd1
      have hsy : S1.syncS logN = { S1 with steps := S1.steps + 1, files := S1.files.modify g fun x => ⟨x.text, x.text.length⟩ } := by
        unfold Dk.syncS
        rw [if_neg (by simpa using h2), if_neg (by rw [h6]; decide), h3, h7]
        rfl
      have hE : S1.appendE logN = 0 := by unfold Dk.appendE; rw [if_neg (by simpa using h2), h6]
      refine ⟨S1.syncS logN, by show (S1.syncS logN, ((S1.appendE logN : Nat) : Int)) = _; rw [hE]; rfl, by rw [hsy]; exact hp1, by rw [hsy]; exact hd1, by rw [hsy]; exact hn1, ?_⟩
      rw [hsy]
      have := get_modify (fun x : Fl => (⟨x.text, x.text.length⟩ : Fl)) hF1
      rw [hlen] at this
      exact this
    | false =>
      have hF : F.text.length = 16 + pos := hc rfl
      have hT : F.text.take (16 + pos) = F.text := List.take_of_length_le (by omega)
      rw [if_neg (by decide), hT]
      obtain ⟨-, -, -, -, r5, -, -⟩ := h.reads
      rw [r5]
      by_cases hs : F.sync < F.text.length
      · rw [if_pos hs, goL1]
        obtain ⟨t1, t2⟩ := h.sync
        refine ⟨S.syncS logN, by show (S.syncS logN, ((S.appendE logN : Nat) : Int)) = _; rw [t1]; rfl, by rw [t2]; exact h.plan, by rw [t2]; exact h.up, by rw [t2]; exact h.name, ?_⟩
        rw [t2]
        have := get_modify (fun x : Fl => (⟨x.text, x.text.length⟩ : Fl)) h.file
        rw [hF] at this
        exact this
      · rw [if_neg hs]
        have h1 := h.ok.sync
        refine ⟨S, rfl, h.plan, h.up, h.name, ?_⟩
        rw [h.file]
        have : F.sync = 16 + pos := by omega
        rw [← this]
  obtain ⟨S1, e1, hp, hd, hn, hF⟩ := key
  obtain ⟨n1, n2⟩ := noPlan_names hp hd
  refine ⟨S1.namesS, ?_, by rw [n2]; exact hp, by rw [n2]; exact hd, by rw [n2], by rw [n2], by rw [n2]; exact hn, by rw [n2]; exact hF⟩
  unfold Pl.rdLong
  rw [e1, if_pos rfl, goL1]
  show (S1.namesS, ((S1.namesE : Nat) : Int)) = _
  rw [n1]; rfl
/-- Open, of what was found. -/
theorem Found.opens (h : Found S all lo g F f bs m) (hI : S.Inv) (hz : ∀ x ∈ S.files, x.text.length ≤ 140737488351232) :
    (Pl.clean S).2 = 0 ∧ ∃ n R, m ≤ n ∧ n ≤ bs.length ∧ (F.text = logF f bs → n = bs.length) ∧
      Opn (Pl.clean S).1 (R, 0) (bs.take n) ((F.text.length : Int) - atF f bs n) (atF f bs n) (f - 1 + n) ∧
      (∀ pol every, Alive R ⟨pol, every, f - 1 + n, f - 1 + n, atF f bs n, false, false⟩ (all.take (f - 1 + n)) g ⟨logF f (bs.take n), atF f bs n⟩ f (bs.take n) n) ∧ R.plan = [] ∧ R.down = false := by
  obtain ⟨c1, hc⟩ := h.clean
  refine ⟨c1, ?_⟩
  have ok := h.ok
  have hf := ok.f0
  obtain ⟨k, hk⟩ : ∃ k, F.text.length = k := ⟨_, rfl⟩
  have hsur := ok.sure
  have hsy := ok.sync
  obtain ⟨n, h1, h2, h3, h4⟩ := wholeF_ex (f := f) bs (k := k) ok.le (by omega)
  have hbm : ∀ b ∈ bs, b.length ≤ maxG := fun b hb => by have := ok.bodies b hb; unfold maxG; omega
  have hkz : k ≤ 140737488351232 := by rw [← hk]; exact hz F (List.mem_of_getElem? h.file)
  have hlong := ok.long
  obtain ⟨x, torn, hx, hxl, hkt⟩ := tornF_tx hf h2 h3 h4 (by omega) hbm ok.few hkz
  have htext : (logF f bs).take k = F.text := by rw [← hk]; exact ok.text.symm
  rw [htext] at hx
  have h16 := atF_ge hf bs n
  have e1 : 16 + (atF f bs n - 16) = atF f bs n := by omega
  obtain ⟨R, hR, r1, r2, r3, r4, r5, r6⟩ := hc.rdLong (atF f bs n - 16) torn (fun ht => by rw [hk, e1]; exact hkt ht) (by omega)
  rw [e1] at r6
  have hn2 : (bs.take n).length = n := by rw [List.length_take, Nat.min_eq_left h2]
  obtain ⟨q1, q2, q3, q4, q5, -, -⟩ := hc.reads
  have hop := Opn.long (S := (Pl.clean S).1) F.text x f (atF f bs n - 16) (bs.take n) torn q1 q2 q4 hx
  rw [hR, e1, hn2] at hop
  have e3 : (x.length : Int) - ((atF f bs n - 16 : Nat) : Int) = (F.text.length : Int) - atF f bs n := by rw [hxl, hk]; omega
  rw [e3] at hop
  have hFt : F.text.take (atF f bs n) = logF f (bs.take n) := by
    rw [← htext, List.take_take, Nat.min_eq_left h3, logF_take f bs h2]
  rw [hFt] at r6
  refine ⟨n, R, h1, h2, fun hx => ?_, hop, fun pol every => ?_, r1, r2⟩
  · rcases Nat.lt_or_ge n bs.length with h5 | h5
    · exfalso
      have h6 := h4 h5
      have h7 := atF_le f bs (i := n + 1) (by omega)
      have h8 : k = (logF f bs).length := by rw [← hk, hx]
      omega
    · omega
  · have hhigh := ok.high
    have hal : (all.take (f - 1 + n)).length = f - 1 + n := by rw [List.length_take]; omega
    have hzero : atF f (bs.take n) n = atF f bs n := by unfold atF; rw [List.take_take, Nat.min_self]
    have hlenT : (logF f (bs.take n)).length = atF f bs n := rfl
    refine ⟨rfl, fun i hi => ?_, r6, rfl, by rw [hn2], hal, rfl, ?_⟩
    · rw [r3] at hi
      have h0 : i = 0 := by simpa using hi
      subst h0
      unfold namesAt
      rw [List.take_zero, List.foldl_nil, r4]
      exact r5
    · refine ⟨hf, by rw [List.take_length], Nat.le_refl _, by rw [hzero]; exact Nat.le_refl _, by rw [hlenT]; exact Nat.le_refl _, by rw [hn2]; exact Nat.le_refl _, Nat.le_refl _, by rw [hn2, hal]; exact Nat.le_refl _, fun i i1 i2 => ?_, fun b hb => ok.bodies b (List.mem_of_mem_take hb), by have := ok.few; rw [hn2]; omega⟩
      rw [hn2] at i2
      obtain rfl : i = n := by omega
      rw [List.take_take, Nat.min_self, List.take_take, Nat.min_self]
      exact ok.same i h1 h2
/-- The first Open. -/
theorem first_alive (pol every : Int) : Alive (su4 (headT 1)) ⟨pol, every, 0, 0, 16, false, false⟩ [] 0 ⟨headT 1, 16⟩ 1 [] 0 := by
  have e : logF 1 [] = headT 1 := by unfold logF; simp [grps, encAll]
  refine ⟨rfl, fun i hi => ?_, rfl, e.symm, rfl, rfl, rfl, ?_⟩
  · have h0 : i = 0 := by simpa [su4] using hi
    subst h0
    rfl
  · refine ⟨by decide, by rw [e]; simp, by rw [e]; exact Nat.le_refl _, ?_, Nat.le_refl _, Nat.le_refl _, Nat.zero_le _, Nat.le_refl _, fun i h1 h2 => ?_, fun b hb => (by cases hb), by decide⟩
    · show (logF 1 ([].take 0)).length ≤ 16
      rw [List.take_nil, e]; exact Nat.le_refl _
    · obtain rfl : i = 0 := by simpa using h2
      rfl
end
end Pl
end Go.Proofs.YtfbjmhipjfjaeaaGreatDoor
