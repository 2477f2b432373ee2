/- covenantlaw26: rows of texts; long; SameTexts. AofTorn, plainly: what is found of a beginning of a log. AofTorn: what Open, Append, Open find, plainly; the disk's own calls ahead of a log. -/
import Derived.Test.YtfbjmhipjfjaeaaGreatDoorM26
import Derived.Test.YtfbjmhipjfjaeaaGreatDoorM01
namespace Go.Proofs.YtfbjmhipjfjaeaaGreatDoor
open Go.ChangeShapes Go.WideShapes Go.ChangeAt Go.RowKit Go.Maps Pl
set_option linter.unusedVariables false
set_option linter.unusedSimpArgs false
/-- A slice of texts. -/
def TAt (w : World) (v : Value) (ts : List Tx) : Prop :=
  ∃ ao cp, v = .slice ao ts.length cp ∧ (ts = [] ∨ ∃ g off, ao = some ⟨g, off, none⟩ ∧ g < w.heap.size ∧ ∀ (j : Nat) t, ts[j]? = some t → w.cell? ⟨g, off + j, none⟩ = some (.string (str t)))
theorem TAt.below {w w' : World} {v : Value} {ts : List Tx} (h : TAt w v ts) (hb : Below w.heap.size w w') : TAt w' v ts := by
  obtain ⟨ao, cp, rfl, h⟩ := h
  refine ⟨ao, cp, rfl, h.imp id ?_⟩
  rintro ⟨g, off, rfl, hg, hc⟩
  exact ⟨g, off, rfl, Nat.lt_of_lt_of_le hg hb.size, fun j x hx => (hb.cell (by exact hg)).trans (hc j x hx)⟩
theorem SRow.tat {w : World} {v : Value} {bs : List ByteArray} (h : SRow w v bs) : TAt w v (bs.map fun b => b.data.toList) := by
  obtain ⟨ao, cp, rfl, h⟩ := h
  refine ⟨ao, cp, by simp, h.imp (fun e => by rw [e]; rfl) ?_⟩
  rintro ⟨g, off, rfl, hg, hc⟩
  refine ⟨g, off, rfl, hg, fun j t ht => ?_⟩
  rw [List.getElem?_map] at ht
  obtain ⟨x, hx, rfl⟩ := Option.map_eq_some_iff.1 ht
  rw [hc j x hx, str_of]
theorem Texts.tat {base : Nat} {w : World} {v : Value} {bs : List Tx} (h : Texts w base v bs) : TAt w v bs := by
  have h0 : w.ownsRow base 9 1 v bs.length (bs.map fun t => .string (str t)) := h
  rcases h.2 with ⟨h1, h2⟩ | ⟨g, cap, cur, rfl, h2, h3, h4, _⟩
  · exact ⟨none, 0, by rw [h1, h2], .inl (List.eq_nil_of_length_eq_zero h2)⟩
  · refine ⟨_, cap, rfl, .inr ⟨g, 0, rfl, (Array.getElem?_eq_some_iff.1 h3).1, fun j t ht => ?_⟩⟩
    have hj := (List.getElem?_eq_some_iff.1 ht).1
    rw [Nat.zero_add, World.ownsRow.cellAt h0 j (by omega)]
    simp [ht]
/-- The first n of a slice. -/
theorem TAt.take {w : World} {ao : Option Addr} {cp n : Nat} {ts : List Tx} (h : TAt w (.slice ao ts.length cp) ts) (hn : n ≤ ts.length) : TAt w (.slice ao n cp) (ts.take n) := by
  obtain ⟨a2, c2, e, h⟩ := h
  cases e
  refine ⟨ao, cp, by rw [List.length_take, Nat.min_eq_left hn], ?_⟩
  rcases h with rfl | ⟨g, off, rfl, hg, hc⟩
  · left; simp
  · exact .inr ⟨g, off, rfl, hg, fun j t ht => by
      have hj := (List.getElem?_eq_some_iff.1 ht).1
      rw [List.length_take] at hj
      rw [List.getElem?_take_of_lt (by omega)] at ht
      exact hc j t ht⟩
set_option maxHeartbeats 1600000 in
theorem same_texts (v1 v2 : Value) (ts : List Tx) (hm : ts.length ≤ 9223372036854775807) (w : World) (h1 : TAt w v1 ts) (h2 : TAt w v2 ts) :
    Calls Tryz.prog 23 #[v1, v2] w fun e w' => e = .returned (.bool true) ∧ Below w.heap.size w w' := by
  obtain ⟨a1, c1, rfl, h1⟩ := h1
  obtain ⟨a2, c2, rfl, h2⟩ := h2
  have H1 := Lib.hid h1
  have H2 := Lib.hid h2
  clear h1 h2
  go_enter Tryz.func23, Tryz.ntmps23
  go_wp2_with fail
  go_loopw [5] (fun i wr => ∃ k : Nat, k ≤ ts.length ∧ i = .int .i64 k ∧ Below w.heap.size w wr) (fun i _ => ts.length - (intOf i).toNat)
  case atStart => exact ⟨0, Nat.zero_le _, rfl, Below.refl _ _⟩
  case round =>
    obtain ⟨k, hk, rfl, hb⟩ := hrel
    by_cases hlt : k < ts.length
    · obtain ⟨x, hx⟩ : ∃ x, ts[k]? = some x := ⟨ts[k], List.getElem?_eq_getElem hlt⟩
      rcases H1.out with rfl | ⟨g1, o1, rfl, hg1, hc1⟩
      · simp at hlt
      rcases H2.out with rfl | ⟨g2, o2, rfl, hg2, hc2⟩
      · simp at hlt
      have p1 := fun nq => (((below_drewN hb nq).cell (p := ⟨g1, o1 + k, none⟩) hg1).trans (hc1 k x hx))
      have p3 := fun nq => (((below_drewN hb nq).cell (p := ⟨g2, o2 + k, none⟩) hg2).trans (hc2 k x hx))
      clear hc1 hc2 hx
      go_wp2_with fail
      go_quiet (fail)
      have bq : Below w.heap.size w (wr.drewN nq) := below_drewN hb nq
      go_wp2
      go_roundw
      case rel => exact ⟨k + 1, by omega, by go_num, bq⟩
      case measure => simp [intOf]; omega
    · go_wp2
      go_ret
      exact ⟨rfl, hb⟩
def lenS (bs : List ByteArray) : Nat := (bs.map fun b => b.size).sum
theorem lenS_take (bs : List ByteArray) (k : Nat) : lenS (bs.take k) ≤ bulkS bs := by
  induction bs generalizing k with
  | nil => simp [lenS, bulkS]
  | cons b l ih =>
    cases k with
    | zero => simp [lenS]
    | succ k =>
      have := ih k
      simp only [lenS, bulkS, List.take_succ_cons, List.map_cons, List.sum_cons] at this ⊢
      omega
theorem lenS_succ {bs : List ByteArray} {k : Nat} {b : ByteArray} (hb : bs[k]? = some b) : lenS (bs.take (k + 1)) = lenS (bs.take k) + b.size := by
  unfold lenS
  rw [List.take_add_one, hb, List.map_append, List.sum_append]
  simp
set_option maxHeartbeats 1600000 in
theorem long_any (v : Value) (bs : List ByteArray) (hbs : bulkS bs ≤ 1048576) (w : World) (hs : SRow w v bs) :
    Calls Tryz.prog 17 #[v] w fun e w' => e = .returned (.bool false) ∧ w' = w := by
  obtain ⟨ao, cp, rfl, hr⟩ := hs
  have HR := Lib.hid hr
  have hlen := bulkS_length bs
  clear hr
  go_enter Tryz.func17, Tryz.ntmps17
  go_wp2_with fail
  go_loopw [3, 4] (fun n i wr => ∃ k s : Nat, k ≤ bs.length ∧ i = .int .i64 k ∧ n = .int .i64 s ∧ Hid (s = lenS (bs.take k)) ∧ wr = w) (fun _ i _ => bs.length - (intOf i).toNat)
  case atStart => exact ⟨0, 0, Nat.zero_le _, rfl, rfl, by show 0 = _; simp [lenS], rfl⟩
  case round =>
    obtain ⟨k, s, hk, rfl, rfl, hsk, rfl⟩ := hrel
    have hsb : s ≤ 1048576 := by have := lenS_take bs k; rw [hsk.out]; omega
    by_cases hlt : k < bs.length
    · obtain ⟨x, hx⟩ : ∃ x, bs[k]? = some x := ⟨bs[k], List.getElem?_eq_getElem hlt⟩
      rcases HR.out with rfl | ⟨g, o, rfl, hg, hc⟩
      · simp at hlt
      have p1 := hc k x hx
      have hxm := bulkS_mem (List.mem_of_getElem? hx)
      have hxs : (x.size : Int) ≤ 1048576 := by omega
      have hgt : ¬ (16777216 : Int) < (x.size : Int) := by omega
      have hkI : (k : Int) < (bs.length : Int) := by omega
      have HN := Lib.hid (show s + x.size = lenS (bs.take (k + 1)) by rw [lenS_succ hx, hsk.out])
      clear hc hx
      go_wp2
      go_roundw
      case rel => exact ⟨k + 1, s + x.size, by omega, by go_num, by go_num, HN, by trivial⟩
      case measure => simp [intOf]; omega
    · have hgt : ¬ (16777216 : Int) < (s : Int) := by omega
      have hkI : ¬ (k : Int) < (bs.length : Int) := by omega
      go_wp2
      go_ret
      exact ⟨by simp, by trivial⟩
end Go.Proofs.YtfbjmhipjfjaeaaGreatDoor

namespace Go.Proofs.YtfbjmhipjfjaeaaGreatDoor
open Pl
set_option linter.unusedVariables false
set_option linter.unusedSimpArgs false
namespace Pl
/-- A log's text. -/
def logT (bs : List Tx) : Tx := headT 1 ++ encAll (grps 1 bs)
/-- Where its i-th group begins. -/
def at_ (bs : List Tx) (i : Nat) : Nat := (logT (bs.take i)).length
theorem head1 : (headT 1).length = 16 := headT_length (by decide)
theorem logT_length (bs : List Tx) : (logT bs).length = 16 + (25 * bs.length + (bs.map List.length).sum) := by
  unfold logT; rw [List.length_append, head1, encAll_length]
theorem at_zero (bs : List Tx) : at_ bs 0 = 16 := by unfold at_; rw [List.take_zero, logT_length]; rfl
theorem logT_snoc (bs : List Tx) (b : Tx) : logT (bs ++ [b]) = logT bs ++ encL (1 + bs.length) b := by
  unfold logT
  rw [grps_snoc, encAll_snoc, List.append_assoc]
theorem at_succ {bs : List Tx} {i : Nat} {b : Tx} (hb : bs[i]? = some b) : logT (bs.take (i + 1)) = logT (bs.take i) ++ encL (i + 1) b ∧ at_ bs (i + 1) = at_ bs i + (25 + b.length) := by
  have hi := (List.getElem?_eq_some_iff.1 hb).1
  have e : bs.take (i + 1) = bs.take i ++ [b] := by rw [List.take_add_one, hb]; rfl
  have e2 : logT (bs.take (i + 1)) = logT (bs.take i) ++ encL (i + 1) b := by rw [e, logT_snoc, List.length_take, Nat.min_eq_left (by omega), Nat.add_comm 1 i]
  exact ⟨e2, by unfold at_; rw [e2, List.length_append, encL_length]⟩
theorem at_mono (bs : List Tx) : ∀ (d i : Nat), at_ bs i ≤ at_ bs (i + d)
  | 0, i => Nat.le_refl _
  | d + 1, i => by
    have h := at_mono bs d i
    rcases hb : bs[i + d]? with _ | b
    · have hl := List.getElem?_eq_none_iff.1 hb
      have : at_ bs (i + (d + 1)) = at_ bs (i + d) := by unfold at_; rw [List.take_of_length_le (by omega), List.take_of_length_le hl]
      omega
    · have := (at_succ hb).2
      have e : i + (d + 1) = i + d + 1 := by omega
      rw [e]; omega
theorem at_all (bs : List Tx) : at_ bs bs.length = (logT bs).length := by unfold at_; rw [List.take_length]
theorem at_le (bs : List Tx) {i : Nat} (hi : i ≤ bs.length) : at_ bs i ≤ (logT bs).length := by
  have := at_mono bs (bs.length - i) i
  rw [show i + (bs.length - i) = bs.length by omega, at_all] at this
  exact this
theorem logT_take (bs : List Tx) {i : Nat} (hi : i ≤ bs.length) : (logT bs).take (at_ bs i) = logT (bs.take i) := by
  have e : bs = bs.take i ++ bs.drop i := (List.take_append_drop i bs).symm
  have h : logT bs = logT (bs.take i) ++ encAll (grps (1 + (bs.take i).length) (bs.drop i)) := by
    conv => lhs; rw [e]
    unfold logT
    rw [grps_append, encAll_append, List.append_assoc]
  rw [h]
  show (logT (bs.take i) ++ _).take (logT (bs.take i)).length = _
  rw [List.take_left]
/-- How many groups stand whole in the first k bytes. -/
theorem whole_ex (bs : List Tx) {k : Nat} (h16 : 16 ≤ k) : ∃ n, n ≤ bs.length ∧ at_ bs n ≤ k ∧ (n < bs.length → k < at_ bs (n + 1)) := by
  have main : ∀ m, m ≤ bs.length → ∃ n, n ≤ m ∧ at_ bs n ≤ k ∧ (n < m → k < at_ bs (n + 1)) := by
    intro m
    induction m with
    | zero => intro _; exact ⟨0, Nat.le_refl _, by rw [at_zero]; exact h16, fun h => absurd h (Nat.lt_irrefl _)⟩
    | succ m ih =>
      intro hm
      obtain ⟨n, h1, h2, h3⟩ := ih (by omega)
      by_cases hn : n < m
      · exact ⟨n, by omega, h2, fun _ => h3 hn⟩
      · obtain rfl : n = m := by omega
        by_cases hk : at_ bs (n + 1) ≤ k
        · exact ⟨n + 1, Nat.le_refl _, hk, fun h => absurd h (Nat.lt_irrefl _)⟩
        · exact ⟨n, by omega, h2, fun _ => by omega⟩
  exact main bs.length (Nat.le_refl _)
/-- The groups of the first k bytes: their number, and what the law's own loop asks. -/
structure Stands (bs : List Tx) (k n : Nat) : Prop where
  le : n ≤ bs.length
  low : k < 16 → n = 0
  iff : ∀ i, i ≤ bs.length → (at_ bs i ≤ k ↔ (16 ≤ k ∧ i ≤ n))
theorem stands_ex (bs : List Tx) (k : Nat) : ∃ n, Stands bs k n := by
  by_cases h16 : 16 ≤ k
  · obtain ⟨n, h1, h2, h3⟩ := whole_ex bs h16
    refine ⟨n, h1, fun h => by omega, fun i hi => ⟨fun h => ⟨h16, ?_⟩, fun h => ?_⟩⟩
    · rcases Nat.lt_or_ge n i with hn | hn
      · have h4 := h3 (by omega)
        have h5 := at_mono bs (i - (n + 1)) (n + 1)
        rw [show n + 1 + (i - (n + 1)) = i by omega] at h5
        omega
      · exact hn
    · have h5 := at_mono bs (n - i) i
      rw [show i + (n - i) = n by omega] at h5
      omega
  · refine ⟨0, Nat.zero_le _, fun _ => rfl, fun i hi => ⟨fun h => ?_, fun h => absurd h.1 h16⟩⟩
    have h5 := at_mono bs i 0
    rw [Nat.zero_add, at_zero] at h5
    omega
/-- The text of the first k bytes of a log, k at least 16. -/
theorem torn_tx {bs : List Tx} {k n : Nat} (hs : Stands bs k n) (h16 : 16 ≤ k) (hk : k ≤ (logT bs).length) (hb : ∀ b ∈ bs, b.length ≤ maxG) (hl : bs.length ≤ 1048576) (hz : (logT bs).length ≤ 140737488351232) :
    ∃ x torn, LogTx ((logT bs).take k) 1 (bs.take n) x (at_ bs n - 16) torn ∧ x.length = k - 16 ∧ (logT bs).take (at_ bs n) = logT (bs.take n) ∧ (torn = false → k = at_ bs n) := by
  have hn := hs.le
  have hat : at_ bs n ≤ k := (hs.iff n hn).2 ⟨h16, Nat.le_refl _⟩
  have hta : (logT (bs.take n)).length = at_ bs n := rfl
  have hpre : ∃ y, logT bs = logT (bs.take n) ++ y ∧ (n = bs.length → y = []) ∧ (∀ b, bs[n]? = some b → ∃ z, y = encL (n + 1) b ++ z) := by
    have e : bs = bs.take n ++ bs.drop n := (List.take_append_drop n bs).symm
    refine ⟨encAll (grps (1 + (bs.take n).length) (bs.drop n)), ?_, fun h => ?_, fun b hb => ?_⟩
    · conv => lhs; rw [e]
      unfold logT
      rw [grps_append, encAll_append, List.append_assoc]
    · rw [List.drop_of_length_le (by omega)]; rfl
    · have hlt := (List.getElem?_eq_some_iff.1 hb).1
      have hbe := (List.getElem?_eq_some_iff.1 hb).2
      rw [List.drop_eq_getElem_cons hlt, hbe, List.length_take, Nat.min_eq_left (by omega), Nat.add_comm 1 n]
      exact ⟨encAll (grps (n + 1 + 1) (bs.drop (n + 1))), by simp [grps, encAll]⟩
  obtain ⟨y, hy, hy0, hy1⟩ := hpre
  have hcut : (logT bs).take k = logT (bs.take n) ++ y.take (k - at_ bs n) := by
    rw [hy, List.take_append, List.take_of_length_le (by omega), hta]
  have hwhole : (logT bs).take (at_ bs n) = logT (bs.take n) := by rw [hy, ← hta, List.take_left]
  have hA : (encAll (grps 1 (bs.take n))).length = at_ bs n - 16 := by
    have : (logT (bs.take n)).length = 16 + (encAll (grps 1 (bs.take n))).length := by unfold logT; rw [List.length_append, head1]
    omega
  have h16a : 16 ≤ at_ bs n := by have := at_mono bs n 0; rw [Nat.zero_add, at_zero] at this; exact this
  have hbt : ∀ b ∈ bs.take n, b.length ≤ maxG := fun b h => hb b (List.mem_of_mem_take h)
  have hlt2 : (bs.take n).length = n := by rw [List.length_take, Nat.min_eq_left hn]
  have eq : (logT bs).take k = headT 1 ++ (encAll (grps 1 (bs.take n)) ++ y.take (k - at_ bs n)) := by rw [hcut]; unfold logT; rw [List.append_assoc]
  have hyl : (y.take (k - at_ bs n)).length = k - at_ bs n := by
    rw [List.length_take]
    have : (logT bs).length = at_ bs n + y.length := by rw [hy, List.length_append, hta]
    omega
  have hxl : (encAll (grps 1 (bs.take n)) ++ y.take (k - at_ bs n)).length = k - 16 := by rw [List.length_append, hA, hyl]; omega
  by_cases hm : k = at_ bs n
  · refine ⟨encAll (grps 1 (bs.take n)) ++ y.take (k - at_ bs n), false, ⟨eq, by decide, by rw [hlt2]; omega, ?_, by rw [hxl]; omega⟩, hxl, hwhole, fun _ => hm⟩
    rw [hm, Nat.sub_self, List.take_zero, List.append_nil]
    have := scan_row (f := 1) (by decide) (l := bs.take n) (by rw [hlt2]; omega) hbt
    rw [this, hA]; rfl
  · have hnl : n < bs.length := by
      rcases Nat.lt_or_ge n bs.length with h | h
      · exact h
      · have := hy0 (by omega)
        rw [this] at hyl
        simp at hyl
        omega
    obtain ⟨b, hbn⟩ : ∃ b, bs[n]? = some b := ⟨_, List.getElem?_eq_getElem hnl⟩
    obtain ⟨z, hz2⟩ := hy1 b hbn
    have hnext : k < at_ bs (n + 1) := by
      rcases Nat.lt_or_ge k (at_ bs (n + 1)) with h | h
      · exact h
      · have := ((hs.iff (n + 1) (by omega)).1 h).2; omega
    have hat1 := (at_succ hbn).2
    have htk : y.take (k - at_ bs n) = (encL (n + 1) b).take (k - at_ bs n) := by
      rw [hz2, List.take_append_of_le_length (by rw [encL_length]; omega)]
    refine ⟨encAll (grps 1 (bs.take n)) ++ y.take (k - at_ bs n), true, ⟨eq, by decide, by rw [hlt2]; omega, ?_, by rw [hxl]; omega⟩, hxl, hwhole, fun h => by cases h⟩
    rw [htk]
    have := scan_torn (f := 1) (by decide) (l := bs.take n) (by rw [hlt2]; omega) hbt (n := n + 1) (b := b) (by omega) (by omega) (hb b (List.mem_of_getElem? hbn)) (k := k - at_ bs n) (by omega) (by rw [encL_length]; omega)
    rw [this, hA]; rfl
/-- A disk of one file, the log's. -/
def oneF (g : Tx) (m : Nat) (la : Nm) (op : List Ch) (st : Nat) : Dk := ⟨[⟨g, m⟩], [(logN, 0)], la, op, [], st, false⟩
def openF : List Ch := [⟨1, logN, [], 0⟩]
section
variable (g e : Tx) (m : Nat) (la : Nm) (op : List Ch) (st : Nat) (k : Int)
theorem of_create : Dk.new.createS logN = oneF [] 0 [] openF 1 := rfl
theorem of_append : (oneF g m la op st).appendS logN e = oneF (g ++ e) m la op (st + 1) := by
  show (⟨[⟨g ++ e.take e.length, m⟩], [(logN, 0)], la, op, [], st + 1, false⟩ : Dk) = _
  rw [List.take_length]; rfl
theorem of_trunc : (oneF g m la op st).truncS logN k = oneF (g.take k.toNat) (min m k.toNat) la op (st + 1) := rfl
theorem of_sync : (oneF g m la op st).syncS logN = oneF g g.length la op (st + 1) := rfl
theorem of_names : (oneF g m la op st).namesS = oneF g m [(logN, 0)] [] (st + 1) := rfl
theorem of_appendE : (oneF g m la op st).appendE logN = 0 := rfl
theorem of_namesE : (oneF g m la op st).namesE = 0 := rfl
theorem of_calm : (oneF g m la op st).Calm := ⟨rfl, rfl⟩
theorem of_clean : clean (oneF g m la op st) = (oneF g m la op st, 0) := rfl
theorem of_read : (oneF g m la op st).hasN logN = true ∧ (oneF g m la op st).askE logN = 0 ∧ (oneF g m la op st).readT logN = g ∧ (oneF g m la op st).readN logN = m := ⟨rfl, rfl, rfl, rfl⟩
theorem of_short : rdShort (oneF g m la op st) = (oneF (headT 1) 16 [(logN, 0)] [] (st + 4), 0) := by
  unfold rdShort
  have e1 : Stp.f (.trunc logN 0) (oneF g m la op st) = oneF [] 0 la op (st + 1) := by
    show oneF (g.take 0) (min m 0) la op (st + 1) = _
    rw [List.take_zero, Nat.min_zero]
  have e2 : Stp.f (.append logN (headT 1)) (oneF [] 0 la op (st + 1)) = oneF (headT 1) 0 la op (st + 2) := of_append [] (headT 1) 0 la op (st + 1)
  have e3 : Stp.f (.sync logN) (oneF (headT 1) 0 la op (st + 2)) = oneF (headT 1) 16 la op (st + 3) := rfl
  unfold goL
  rw [if_pos (show Stp.e (.trunc logN 0) (oneF g m la op st) = 0 from rfl), e1]
  unfold goL
  rw [if_pos (show Stp.e (.append logN (headT 1)) (oneF [] 0 la op (st + 1)) = 0 from rfl), e2]
  unfold goL
  rw [if_pos (show Stp.e (.sync logN) (oneF (headT 1) 0 la op (st + 2)) = 0 from rfl), e3, goL1]
  rfl
theorem of_torn (pos : Nat) (n : Nat) : rdLong (oneF g m la op st) n pos true = (oneF (g.take (16 + pos)) (g.take (16 + pos)).length [(logN, 0)] [] (st + 3), 0) := by
  have e1 : Stp.f (.trunc logN ((16 + pos : Nat) : Int)) (oneF g m la op st) = oneF (g.take (16 + pos)) (min m (16 + pos)) la op (st + 1) := rfl
  have e : rdSync (oneF g m la op st) n pos true = (oneF (g.take (16 + pos)) (g.take (16 + pos)).length la op (st + 2), 0) := by
    unfold rdSync
    rw [if_pos rfl]
    unfold goL
    rw [if_pos (show Stp.e (.trunc logN ((16 + pos : Nat) : Int)) (oneF g m la op st) = 0 from rfl), e1, goL1]
    rfl
  unfold rdLong
  rw [e, if_pos rfl, goL1]
  rfl
theorem of_whole (pos : Nat) : ∃ m2 st2, rdLong (oneF g m la op st) g.length pos false = (oneF g m2 [(logN, 0)] [] st2, 0) ∧ (m = g.length → m2 = m) := by
  by_cases h : m < g.length
  · refine ⟨g.length, st + 2, ?_, fun h2 => by omega⟩
    have e : rdSync (oneF g m la op st) g.length pos false = (oneF g g.length la op (st + 1), 0) := by
      unfold rdSync
      rw [if_neg (by decide), (of_read g m la op st).2.2.2, if_pos h, goL1]
      rfl
    unfold rdLong
    rw [e, if_pos rfl, goL1]
    rfl
  · refine ⟨m, st + 1, ?_, fun _ => rfl⟩
    have e : rdSync (oneF g m la op st) g.length pos false = (oneF g m la op st, 0) := by
      unfold rdSync
      rw [if_neg (by decide), (of_read g m la op st).2.2.2, if_neg h]
    unfold rdLong
    rw [e, if_pos rfl, goL1]
    rfl
end
end Pl
end Go.Proofs.YtfbjmhipjfjaeaaGreatDoor

namespace Go.Proofs.YtfbjmhipjfjaeaaGreatDoor
open Go.ChangeShapes Go.WideShapes Go.ChangeAt Go.RowKit Go.Maps Pl
set_option linter.unusedVariables false
set_option linter.unusedSimpArgs false
namespace Pl
def cutN (bs : List Tx) (k n : Nat) : Int := if k < 16 then (k : Int) else (k : Int) - at_ bs n
theorem torn_open {bs : List Tx} {k n : Nat} (hs : Stands bs k n) (hk : k ≤ (logT bs).length) (hb : ∀ b ∈ bs, b.length ≤ maxG) (hl : bs.length ≤ 1048576) (hz : (logT bs).length ≤ 140737488351232) (la : Nm) (op : List Ch) (st : Nat) :
    ∃ m st2, Opn (clean (oneF ((logT bs).take k) 0 la op st)).1 (oneF (logT (bs.take n)) m [(logN, 0)] [] st2, 0) (bs.take n) (cutN bs k n) (at_ bs n) n := by
  rw [of_clean]
  by_cases h16 : k < 16
  · have h0 := hs.low h16
    subst h0
    have hp : (logT bs).take k = (headT 1).take k := by
      unfold logT
      rw [List.take_append_of_le_length (by rw [head1]; omega)]
    have hlen : ((logT bs).take k).length = k := by rw [List.length_take]; omega
    have := Opn.short (S := oneF ((logT bs).take k) 0 la op st) ((logT bs).take k) rfl rfl rfl (by omega) (by rw [hlen, hp])
    rw [of_short, hlen] at this
    refine ⟨16, st + 4, ?_⟩
    rw [List.take_zero, at_zero]
    have e : logT [] = headT 1 := by unfold logT; simp [grps, encAll]
    rw [e]
    unfold cutN
    rw [if_pos h16]
    exact this
  · obtain ⟨x, torn, hx, hxl, hw, hkt⟩ := torn_tx hs (by omega) hk hb hl hz
    have h16a : 16 ≤ at_ bs n := by have := at_mono bs n 0; rw [Nat.zero_add, at_zero] at this; exact this
    have hlo := Opn.long (S := oneF ((logT bs).take k) 0 la op st) ((logT bs).take k) x 1 (at_ bs n - 16) (bs.take n) torn rfl rfl rfl hx
    have hn2 : (bs.take n).length = n := by rw [List.length_take, Nat.min_eq_left hs.le]
    have e1 : 16 + (at_ bs n - 16) = at_ bs n := by omega
    have e2 : 1 - 1 + (bs.take n).length = n := by omega
    have e3 : (x.length : Int) - ((at_ bs n - 16 : Nat) : Int) = cutN bs k n := by unfold cutN; rw [if_neg h16, hxl]; omega
    have hat : at_ bs n ≤ k := (hs.iff n hs.le).2 ⟨by omega, Nat.le_refl _⟩
    rw [e1, e2, e3] at hlo
    cases torn with
    | true =>
      rw [of_torn, e1, List.take_take, Nat.min_eq_left hat, hw] at hlo
      exact ⟨_, _, hlo⟩
    | false =>
      obtain ⟨m2, st2, h2, -⟩ := of_whole ((logT bs).take k) 0 la op st (at_ bs n - 16)
      rw [h2] at hlo
      refine ⟨m2, st2, ?_⟩
      have : (logT bs).take k = logT (bs.take n) := by rw [hkt rfl, hw]
      rw [this] at hlo
      show Opn (oneF ((logT bs).take k) 0 la op st) _ _ _ _ _
      rw [this]
      exact hlo
/-- Append under SyncAlways, on a disk that refuses nothing. -/
theorem of_logAppend (g : Tx) (m : Nat) (la : Nm) (op : List Ch) (st n : Nat) (z : Int) (body : Tx) :
    (⟨1, 0, n, n, z, false, false⟩ : Lg).append (oneF g m la op st) body = (oneF (g ++ encL (n + 1) body) (g ++ encL (n + 1) body).length la op (st + 2), ⟨1, 0, n + 1, n + 1, z + (encL (n + 1) body).length, false, false⟩, n + 1, 0) := by
  unfold Lg.append
  rw [if_neg (by simp [Lg.dead])]
  have hs : Lg.synced ((oneF g m la op st).appendS logN (encL (n + 1) body)) ((⟨1, 0, n, n, z, false, false⟩ : Lg).more (encL (n + 1) body)) = (oneF (g ++ encL (n + 1) body) (g ++ encL (n + 1) body).length la op (st + 2), ⟨1, 0, n + 1, n + 1, z + (encL (n + 1) body).length, false, false⟩, 0) := by
    rw [of_append]
    unfold Lg.synced
    rw [if_neg (by show ¬ n = n + 1; omega), of_appendE, of_sync]
    rfl
  show (if (oneF g m la op st).appendE logN ≠ 0 then _ else if ((⟨1, 0, n, n, z, false, false⟩ : Lg).more (encL (n + 1) body)).due = true then ((Lg.synced ((oneF g m la op st).appendS logN (encL (n + 1) body)) ((⟨1, 0, n, n, z, false, false⟩ : Lg).more (encL (n + 1) body))).1, (Lg.synced ((oneF g m la op st).appendS logN (encL (n + 1) body)) ((⟨1, 0, n, n, z, false, false⟩ : Lg).more (encL (n + 1) body))).2.1, if (Lg.synced ((oneF g m la op st).appendS logN (encL (n + 1) body)) ((⟨1, 0, n, n, z, false, false⟩ : Lg).more (encL (n + 1) body))).2.2 = 0 then n + 1 else 0, (Lg.synced ((oneF g m la op st).appendS logN (encL (n + 1) body)) ((⟨1, 0, n, n, z, false, false⟩ : Lg).more (encL (n + 1) body))).2.2) else _) = _
  rw [of_appendE, if_neg (by decide), if_pos (by rfl), hs]
  rfl
/-- A whole log is found whole. -/
theorem whole_open (bs : List Tx) (hb : ∀ b ∈ bs, b.length ≤ maxG) (hl : bs.length ≤ 1048577) (hz : (logT bs).length ≤ 140737488351232) (m : Nat) (la : Nm) (op : List Ch) (st : Nat) :
    ∃ m2 st2, Opn (clean (oneF (logT bs) m la op st)).1 (oneF (logT bs) m2 [(logN, 0)] [] st2, 0) bs 0 (logT bs).length bs.length := by
  rw [of_clean]
  have hA : (logT bs).length = 16 + (encAll (grps 1 bs)).length := by unfold logT; rw [List.length_append, head1]
  have hx : LogTx (logT bs) 1 bs (encAll (grps 1 bs)) (encAll (grps 1 bs)).length false :=
    ⟨rfl, by decide, by omega, by rw [scan_row (f := 1) (by decide) (l := bs) (by omega) hb]; rfl, by omega⟩
  have hlo := Opn.long (S := oneF (logT bs) m la op st) (logT bs) (encAll (grps 1 bs)) 1 (encAll (grps 1 bs)).length bs false rfl rfl rfl hx
  obtain ⟨m2, st2, h2, -⟩ := of_whole (logT bs) m la op st (encAll (grps 1 bs)).length
  rw [h2] at hlo
  refine ⟨m2, st2, ?_⟩
  have e1 : 1 - 1 + bs.length = bs.length := by omega
  have e2 : ((encAll (grps 1 bs)).length : Int) - ((encAll (grps 1 bs)).length : Int) = 0 := by omega
  rw [e1, e2, ← hA] at hlo
  exact hlo
end Pl
section
variable {P : Nat → Prop} {w w' : World} {b j : Nat} {a : Addr} {S S' : Dk}
theorem DW.solo (h : DW P w b a S) (hs : Solo P w w' b S') : DW (fun k => P k ∨ w.heap.size ≤ k) w' b a S' ∧ Wr P w w' :=
  ⟨⟨hs.1, h.sent.kept hs.2 h.three fun k hk hp => by have := h.n1 k hp; omega, fun k hk => hk.elim (h.n1 k) (fun h2 => Nat.le_trans h.three h2), Nat.le_trans h.three hs.2.size⟩, hs.2⟩
theorem DW.create (h : DW P w b a S) (hI : S.Inv) (hS : S.Small j) (hj : j ≤ 4194300) (n : Tx) (hn : n.length ≤ 33554432) :
    Calls Tryz.prog 21 #[.pointer (some ⟨b, 0, none⟩), .string (str n)] w (fun e w' => e = .returned (.int .i64 (S.createE n)) ∧ DW (fun k => P k ∨ w.heap.size ≤ k) w' b a (S.createS n) ∧ Wr P w w') :=
  ((Solo.start h.one).create hI hS hj n hn).mono fun e w' he => ⟨he.1, h.solo he.2⟩
theorem DW.append (h : DW P w b a S) (hI : S.Inv) (hS : S.Small j) (hj : j ≤ 4194300) (n s : Tx) (hn : n.length ≤ 33554432) (hs : s.length ≤ 33554432) :
    Calls Tryz.prog 22 #[.pointer (some ⟨b, 0, none⟩), .string (str n), .string (str s)] w (fun e w' => e = .returned (.tuple #[.int .i64 (S.appendN n s), .int .i64 (S.appendE n)]) ∧ DW (fun k => P k ∨ w.heap.size ≤ k) w' b a (S.appendS n s) ∧ Wr P w w') :=
  ((Solo.start h.one).append hI hS hj n s hn hs).mono fun e w' he => ⟨he.1, h.solo he.2⟩
/-- What Open leaves is sound and small. -/
theorem Opn.inv {R : Dk × Int} {bs : List Tx} {cut size : Int} {last : Nat} (h : Opn S R bs cut size last) (hI : S.Inv) : R.1.Inv := by
  cases h with
  | create => exact goL_inv _ hI
  | short => exact goL_inv _ hI
  | long s x f pos bs torn =>
    unfold rdLong
    have h1 : (rdSync S s.length pos torn).1.Inv := by
      unfold rdSync
      split
      · exact goL_inv _ hI
      · split
        · exact goL_inv _ hI
        · exact hI
    split
    · exact goL_inv _ h1
    · exact h1
theorem four_ok {x0 x1 x2 x3 : Stp} (h0 : x0.ok) (h1 : x1.ok) (h2 : x2.ok) (h3 : x3.ok) : ∀ x ∈ [x0, x1, x2, x3], x.ok := by
  intro x hx
  simp only [List.mem_cons, List.not_mem_nil, or_false] at hx
  rcases hx with rfl | rfl | rfl | rfl <;> assumption
theorem Opn.small {R : Dk × Int} {bs : List Tx} {cut size : Int} {last : Nat} (h : Opn S R bs cut size last) (hS : S.Small j) : R.1.Small (j + 4) := by
  have hh : (Stp.append logN (headT 1)).ok := ⟨logN_len, Nat.le_trans (headT_le 1) (by decide)⟩
  cases h with
  | create => exact goL_small (xs := [.create logN, .append logN (headT 1), .sync logN, .names]) (four_ok logN_len hh logN_len trivial) hS
  | short => exact goL_small (xs := [.trunc logN 0, .append logN (headT 1), .sync logN, .names]) (four_ok logN_len hh logN_len trivial) hS
  | long s x f pos bs torn =>
    unfold rdLong
    have h1 : (rdSync S s.length pos torn).1.Small (j + 2) := by
      unfold rdSync
      split
      · refine goL_small (xs := [.trunc logN ((16 + pos : Nat) : Int), .sync logN]) (fun x hx => ?_) hS
        simp only [List.mem_cons, List.not_mem_nil, or_false] at hx
        rcases hx with rfl | rfl <;> exact logN_len
      · split
        · refine (goL_small (xs := [.sync logN]) (fun x hx => ?_) hS).mono (by simp)
          simp only [List.mem_cons, List.not_mem_nil, or_false] at hx
          rcases hx with rfl
          exact logN_len
        · exact hS.mono (by omega)
    split
    · refine (goL_small (xs := [.names]) (fun x hx => ?_) h1).mono (by simp)
      simp only [List.mem_cons, List.not_mem_nil, or_false] at hx
      rcases hx with rfl
      trivial
    · exact h1.mono (by omega)
end
end Go.Proofs.YtfbjmhipjfjaeaaGreatDoor
