/- The walk of SessionRuns. -/
import Derived.Test.YtflhcffpfiameaaSess21
namespace Go.Proofs.Ytflhcffpfiameaa
open Go.ChangeShapes Go.WideShapes Go.ChangeAt Go.RowKit Go.Maps
set_option linter.unusedVariables false

/-- A row that stays beside the session's blocks. -/
def Stays (lo hi : Nat) (w : World) (v : Value) (bs : List ByteArray) : Prop := ZRow lo w v bs ∧ hi ≤ w.heap.size ∧ ∀ g, v.ownBlock = some g → g < hi
theorem Stays.start {lo : Nat} {w : World} {v : Value} {bs : List ByteArray} (h : ZRow lo w v bs) : Stays lo w.heap.size w v bs := ⟨h, Nat.le_refl _, fun g hg => by
  rcases h with ⟨rfl, _⟩ | ⟨k, cap, cur, rfl, _, h2, _⟩
  · simp [Value.ownBlock] at hg
  · simp [Value.ownBlock] at hg; subst hg; exact (Array.getElem?_eq_some_iff.1 h2).1⟩
theorem Stays.kept {lo hi : Nat} {w w' : World} {v : Value} {bs : List ByteArray} (h : Stays lo hi w v bs) (hw : Wr (fun k => k < lo ∨ hi ≤ k) w w') : Stays lo hi w' v bs := by
  obtain ⟨h1, h2, h3⟩ := h
  refine ⟨?_, Nat.le_trans h2 hw.size, h3⟩
  rcases h1 with h | ⟨g, cap, cur, rfl, hg, hk, r⟩
  · exact .inl h
  · have hgh : g < hi := h3 g (by simp [Value.ownBlock])
    exact .inr ⟨g, cap, cur, rfl, hg, (hw.block g (by omega) (by omega)).trans hk, r⟩
theorem Stays.below {lo hi : Nat} {w w' : World} {v : Value} {bs : List ByteArray} (h : Stays lo hi w v bs) (hb : Below w.heap.size w w') : Stays lo hi w' v bs := h.kept (Wr.of_below hb)
theorem Stays.trow {lo hi : Nat} {w : World} {v : Value} {t : List Tx} (h : Stays lo hi w v (textsB t)) : TRow w v t := h.1.srow
/-- Commands queued, one behind the other. -/
def pushes (S : SessM) (rs : List (List ByteArray)) : SessM := rs.foldl SessM.push S
theorem pushes_snoc (S : SessM) (rs : List (List ByteArray)) (r : List ByteArray) : pushes S (rs ++ [r]) = (pushes S rs).push r := by simp [pushes, List.foldl_append]
structure Pushed (S : SessM) (rs : List (List ByteArray)) (T : SessM) : Prop where
  multi : T.multi = true
  places : T.places = 1024
  keys : T.keys = S.keys
  dirty : T.dirty = S.dirty
  few : rs.length ≤ 1024 → T.queue = rs.map listsB ∧ T.refused = false
  full : 1024 ≤ rs.length → T.queue.length = 1024
  many : 1024 < rs.length → T.refused = true
theorem Pushed.start {S : SessM} (h1 : S.multi = true) (h2 : S.places = 1024) (h3 : S.queue = []) (h4 : S.refused = false) : Pushed S [] S :=
  ⟨h1, h2, rfl, rfl, fun _ => ⟨h3, h4⟩, fun h => by simp at h, fun h => by simp at h⟩
theorem Pushed.next {S T : SessM} {rs : List (List ByteArray)} (h : Pushed S rs T) (r : List ByteArray) : Pushed S (rs ++ [r]) (T.push r) := by
  have hm := h.multi
  unfold SessM.push
  rw [if_neg (by simp [hm])]
  by_cases hl : rs.length < 1024
  · obtain ⟨f1, f2⟩ := h.few (by omega)
    have hq : T.queue.length = rs.length := by rw [f1]; simp
    rw [if_neg (by rw [hq, h.places]; omega)]
    exact ⟨hm, h.places, h.keys, h.dirty, fun _ => ⟨by rw [f1]; simp, f2⟩, fun h0 => by simp at h0 ⊢; omega, fun h0 => by simp at h0; omega⟩
  · have hq := h.full (by omega)
    rw [if_pos (by rw [hq, h.places])]
    exact ⟨hm, h.places, h.keys, h.dirty, fun h0 => by simp at h0; omega, fun _ => hq, fun _ => rfl⟩
theorem Pushed.reply {S T : SessM} {rs : List (List ByteArray)} (h : Pushed S rs T) : (rs.length < 1024 → T.pushR = .agg #[.int .i64 1, .string ⟨#[81, 85, 69, 85, 69, 68]⟩, .int .i64 0, .slice none 0 0]) ∧ (1024 ≤ rs.length → T.pushR = .agg #[.int .i64 2, .string ⟨#[69, 82, 82, 32, 116, 111, 111, 32, 109, 97, 110, 121, 32, 113, 117, 101, 117, 101, 100, 32, 99, 111, 109, 109, 97, 110, 100, 115]⟩, .int .i64 0, .slice none 0 0]) := by
  have hm := h.multi
  unfold SessM.pushR
  rw [if_neg (by simp [hm])]
  refine ⟨fun hl => ?_, fun hl => ?_⟩
  · obtain ⟨f1, f2⟩ := h.few (by omega)
    have hq : T.queue.length = rs.length := by rw [f1]; simp
    rw [if_neg (by rw [hq, h.places]; omega)]
  · rw [if_pos (by rw [h.full hl, h.places])]
theorem disc_multi (S : SessM) : S.disc.multi = false := by
  unfold SessM.disc
  split
  · rfl
  next h => simpa using h
theorem beg_reply {S : SessM} (h : S.multi = false) : S.begR = .agg #[.int .i64 1, .string ⟨#[79, 75]⟩, .int .i64 0, .slice none 0 0] := by
  unfold SessM.begR; rw [if_neg (by simp [h])]
section
variable {B b lo hi : Nat} {S : SessM} {w : World}
theorem multi_al (h : Alone B b lo hi S w) : Calls Try.prog 17 #[.pointer (some ⟨b, 0, none⟩)] w fun e w' => e = .returned (.bool S.multi) ∧ w = w' := by
  obtain ⟨F, h1, _⟩ := h; exact multi_any h1
theorem dirty_al (h : Alone B b lo hi S w) : Calls Try.prog 25 #[.pointer (some ⟨b, 0, none⟩)] w fun e w' => e = .returned (.bool S.dirty) ∧ w = w' := by
  obtain ⟨F, h1, _⟩ := h; exact dirty_any h1
theorem refused_al (h : Alone B b lo hi S w) : Calls Try.prog 13 #[.pointer (some ⟨b, 0, none⟩)] w fun e w' => e = .returned (.bool S.refused) ∧ w = w' := by
  obtain ⟨F, h1, _⟩ := h; exact refused_any h1
def ToldEnd (b B : Nat) (S : SessM) (w : World) (e : Ending) (w' : World) : Prop := ∃ ao cp, e = .returned (.slice ao S.keys.length cp) ∧ Stays w.heap.size w'.heap.size w' (.slice ao S.keys.length cp) (textsB (sortK S.keys)) ∧ Alone B b w.heap.size w'.heap.size S w' ∧ Below w.heap.size w w'
theorem told_al (h : Alone B b lo hi S w) : Calls Try.prog 21 #[.pointer (some ⟨b, 0, none⟩)] w (ToldEnd b B S w) := by
  have h0 := h
  obtain ⟨F, h1, _⟩ := h
  refine (watched_any h1).mono ?_
  rintro e w' ⟨v, rfl, z, bl⟩
  obtain ⟨ao, cp, e2⟩ := (show TRow w' v (sortK S.keys) from z.srow).shape
  rw [sortK_length] at e2
  subst e2
  exact ⟨ao, cp, rfl, Stays.start z, h0.beside bl, bl⟩
end
theorem textsB_listsB (q : List (List ByteArray)) : (q.map listsB).map textsB = q := by
  rw [List.map_map]
  conv => rhs; rw [← List.map_id q]
  congr 1; funext r; simp [textsB, listsB, Function.comp_def, str_of]
/-- Behind commands queued: the session T, the watched keys that were told. -/
structure AtQ (w : World) (b lo hi : Nat) (S1 : SessM) (wv : Value) (rs : List (List ByteArray)) (T : SessM) (wr : World) : Prop where
  p : Pushed S1 rs T
  q : QOk T
  a : Alone w.heap.size b lo hi T wr
  w : Below w.heap.size w wr
  z : Stays lo hi wr wv (textsB (sortK S1.keys))
theorem AtQ.below {w : World} {b lo hi : Nat} {S1 : SessM} {wv : Value} {rs : List (List ByteArray)} {T : SessM} {wr w' : World} (h : AtQ w b lo hi S1 wv rs T wr) (hb : Below wr.heap.size wr w') : AtQ w b lo hi S1 wv rs T w' :=
  ⟨h.p, h.q, h.a.below hb, h.w.trans (hb.mono h.w.size), h.z.below hb⟩
theorem AtQ.next {w : World} {b lo hi : Nat} {S1 : SessM} {wv : Value} {rs : List (List ByteArray)} {T : SessM} {wr w' : World} (h : AtQ w b lo hi S1 wv rs T wr) (r : List ByteArray) (hr : r.length ≤ 1048576) (e : AloneEnd w.heap.size b lo hi (T.push r) wr w') : AtQ w b lo hi S1 wv (rs ++ [r]) (T.push r) w' :=
  ⟨h.p.next r, SessM.push_q h.q r hr, e.1, h.w.trans e.2.1, h.z.kept e.2.2⟩
def AnyIn (S : SessM) (D : Bool) (ts : List ByteArray) : Bool := D || ts.any fun x => decide (x.data.toList ∈ S.keys)
theorem AnyIn.snoc {S : SessM} {D : Bool} {ts : List ByteArray} {x : ByteArray} : AnyIn S D (ts ++ [x]) = (AnyIn S D ts || decide (x.data.toList ∈ S.keys)) := by simp [AnyIn, Bool.or_assoc]
theorem touch_dirty {S1 T : SessM} {rs : List (List ByteArray)} {D : Bool} (h : Pushed S1 rs T) (hD : D = S1.dirty) (ts : List ByteArray) : (T.touch ts).dirty = AnyIn S1 D ts := by
  simp only [SessM.touch, AnyIn, h.keys, h.dirty, hD]
theorem exec_many {U : SessM} (h1 : U.multi = true) (h2 : U.refused = true) : U.execN = 3 ∧ U.execQ = [] ∧ U.execS = U.gone := by
  simp [SessM.execN, SessM.execQ, SessM.execS, h1, h2]
theorem exec_dirty {U : SessM} (h1 : U.multi = true) (h2 : U.refused = false) (h3 : U.dirty = true) : U.execN = 2 ∧ U.execQ = [] ∧ U.execS = U.gone := by
  simp [SessM.execN, SessM.execQ, SessM.execS, h1, h2, h3]
theorem exec_runs {U : SessM} (h1 : U.multi = true) (h2 : U.refused = false) (h3 : U.dirty = false) : U.execN = 1 ∧ U.execQ = U.queue ∧ U.execS = U.gone := by
  simp [SessM.execN, SessM.execQ, SessM.execS, h1, h2, h3]
theorem exec_gone {U : SessM} : U.gone.execN = 0 ∧ U.gone.execQ = [] ∧ U.gone.execS = U.gone := by
  simp [SessM.execN, SessM.execQ, SessM.execS, SessM.gone, SessM.new]
set_option maxRecDepth 100000 in
set_option maxHeartbeats 6400000 in
theorem sessionRuns_walk (v0 : Value) (ds : List (Int × List ByteArray)) (hds : ∀ d ∈ ds, (∀ b ∈ d.2, b.size ≤ maxLen) ∧ d.2.length ≤ 1048576) (hlen : ds.length ≤ 1048576) (v1 : Value) (rs : List (List ByteArray)) (hrs : ∀ r ∈ rs, r.length ≤ 1048576) (hrl : rs.length ≤ 1048576)
    (v2 : Value) (ts : List ByteArray) (hts : ∀ x ∈ ts, x.size ≤ maxLen) (htl : ts.length ≤ 1048576) (w : World) (hv0 : DRow w v0 ds) (hv1 : LRow w v1 rs) (hv2 : SRow w v2 ts) :
    Calls Try.prog 6 #[v0, v1, v2] w (DoesEnd w) := by
  obtain ⟨ao, cp, rfl⟩ := hv0.shape
  obtain ⟨lo, lc, rfl⟩ := hv1.shape
  obtain ⟨to_, tc, rfl⟩ : ∃ ao cp, v2 = .slice ao ts.length cp := by obtain ⟨ao, cp, e, _⟩ := hv2; exact ⟨ao, cp, e⟩
  have HV := Lib.hid hv0
  have HL := Lib.hid hv1
  have HT := Lib.hid hv2
  have HD := Lib.hid hds
  have HR := Lib.hid hrs
  have HS := Lib.hid hts
  clear hv0 hv1 hv2 hds hrs hts
  go_enter Try.func6, Try.ntmps6
  go_wp2_with fail
  ((refine (new_any 1024 (by omega) (by omega) _).mono ?_); rintro e w1 ⟨b, F, rfl, s1, l1, b1⟩)
  have X1 := Lib.hid (And.intro s1 (And.intro l1 b1))
  clear s1 l1 b1
  go_wp2_with fail
  ((refine (rnew_any 1024 (by omega) (by omega) _).mono ?_); rintro e w2 ⟨x, G, rfl, s2, l2, b2⟩)
  have X2 := Lib.hid (Both.start X1.out.1 X1.out.2.1 X1.out.2.2 s2 l2 b2)
  clear s2 l2 b2
  go_wp2_with fail
  ((with_reducible refine (awake_any _).mono ?_); rintro e w3 ⟨rfl, b3⟩)
  have X3 := Lib.hid (And.intro (X2.out.1.below b3) (X2.out.2.trans (b3.mono X2.out.2.size)))
  clear b3
  go_wp2_with fail
  go_loopw [11] (fun i wr => ∃ j : Nat, j ≤ ds.length ∧ i = .int .i64 j ∧ Hid (Both w.heap.size 1024 b x 0 0 wr ∧ Below w.heap.size w wr)) (fun i _ => ds.length - (intOf i).toNat)
  case atStart => exact ⟨0, Nat.zero_le _, rfl, X3.out⟩
  case round =>
    obtain ⟨j, hj, rfl, hr⟩ := hrel
    by_cases hjl : j < ds.length
    · obtain ⟨d, hd⟩ : ∃ d, ds[j]? = some d := ⟨_, List.getElem?_eq_getElem hjl⟩
      obtain ⟨g, off, va, vc, rfl, hg, p0, p1, hs⟩ := HV.out.at hd
      have c0 : wr.cell? ⟨g, off + j * 2, none⟩ = some (.int .i64 d.1) := (hr.out.2.cell (p := ⟨g, off + j * 2, none⟩) hg).trans p0
      have c1 : wr.cell? ⟨g, off + j * 2 + 1, none⟩ = some (.slice va d.2.length vc) := (hr.out.2.cell (p := ⟨g, off + j * 2 + 1, none⟩) hg).trans p1
      have hdd := HD.out d (List.mem_of_getElem? hd)
      have HE := Lib.hid (did_any hr.out.1 (Nat.zero_le _) d.1 va vc d.2 (fun W hW => hs.kept (hr.out.2.trans hW)) hdd.1 hdd.2)
      have hjI : (j : Int) < (ds.length : Int) := by omega
      have hj0 : (0 : Int) ≤ (j : Int) := by omega
      clear hd hs hdd p0 p1 hg
      go_wp2_with fail
      ((with_reducible refine HE.out.mono ?_); rintro e w5 ⟨rfl, h5, b5, -⟩)
      have X5 := Lib.hid (And.intro h5 (hr.out.2.trans b5))
      clear h5 b5
      go_wp2
      go_roundw
      case rel => exact ⟨j + 1, by omega, by go_num, X5.out⟩
      case measure => simp [intOf]; omega
    · obtain rfl : j = ds.length := by omega
      obtain ⟨S, A0, hQ, hP⟩ := hr.out.1.alone (Nat.zero_le _)
      have HA := Lib.hid (And.intro A0 hr.out.2)
      have HQ := Lib.hid (And.intro (SessM.disc_q hQ) (show S.disc.places = 1024 by rw [SessM.disc_places]; exact hP))
      clear A0 hr hQ hP
      obtain ⟨S0, hS0⟩ : ∃ S0, S0 = S.disc := ⟨_, rfl⟩
      have hm0 : S0.multi = false := by rw [hS0]; exact disc_multi S
      have HD0 := discard_al HA.out.1
      rw [← hS0] at HD0 HQ
      replace HD0 := Lib.hid HD0
      clear hS0
      go_wp2_with fail
      ((with_reducible refine HD0.out.mono ?_); rintro e w5 ⟨rfl, a5, b5, -⟩)
      have H5 := Lib.hid (And.intro a5 (HA.out.2.trans b5))
      have HM := multi_al H5.out.1
      rw [hm0] at HM
      replace HM := Lib.hid HM
      have HB := begin_al H5.out.1
      rw [beg_reply hm0] at HB
      replace HB := Lib.hid HB
      clear a5 b5
      go_wp2_with fail
      ((with_reducible refine HM.out.mono ?_); rintro e w6 ⟨rfl, rfl⟩)
      go_wp2_with fail
      ((with_reducible refine HB.out.mono ?_); rintro e w6 ⟨rfl, a6, b6, -⟩)
      have H6 := Lib.hid (And.intro a6 (H5.out.2.trans b6))
      have hfk := field_kindA
      clear a6 b6
      obtain ⟨S1, hS1⟩ : ∃ S1, S1 = S0.beg := ⟨_, rfl⟩
      have HP0 := Lib.hid (show Pushed S1 [] S1 by
        have hq := HQ.out.1.2 hm0
        rw [hS1]
        exact Pushed.start rfl HQ.out.2 hq.2 hq.1)
      have HQ1 := Lib.hid (show QOk S1 by rw [hS1]; exact HQ.out.1.beg)
      rw [← hS1] at H6
      obtain ⟨D, hD⟩ : ∃ D, D = S1.dirty := ⟨_, rfl⟩
      have HDi := dirty_al H6.out.1
      rw [← hD] at HDi
      replace HDi := Lib.hid HDi
      have HD1 := Lib.hid hD
      clear hS1 hD
      go_wp2_with fail
      ((with_reducible refine HDi.out.mono ?_); rintro e w7 ⟨rfl, rfl⟩)
      go_wp2_with fail
      ((with_reducible refine (told_al H6.out.1).mono ?_); rintro e w7 ⟨a7, c7, rfl, z7, s7, b7⟩)
      have H7 := Lib.hid (show AtQ w b w6.heap.size w7.heap.size S1 (.slice a7 S1.keys.length c7) [] S1 w7 from ⟨HP0.out, HQ1.out, s7, H6.out.2.trans (b7.mono H6.out.2.size), z7⟩)
      clear s7 b7 z7 hfk
      go_wp2_with fail
      go_loopw [14] (fun i wr => ∃ (q : Nat) (T : SessM), q ≤ rs.length ∧ i = .int .i64 q ∧ Hid (AtQ w b w6.heap.size w7.heap.size S1 (.slice a7 S1.keys.length c7) (rs.take q) T wr)) (fun i _ => rs.length - (intOf i).toNat)
      case atStart => exact ⟨0, S1, Nat.zero_le _, rfl, by rw [List.take_zero]; exact H7.out⟩
      case round =>
        obtain ⟨q, T, hq, rfl, hr⟩ := hrel
        by_cases hql : q < rs.length
        · obtain ⟨r, hrr⟩ : ∃ r, rs[q]? = some r := ⟨_, List.getElem?_eq_getElem hql⟩
          obtain ⟨g1, o1, x1, rfl, hg1, p1, s1⟩ := HL.out.open hrr
          have q1 : wr.cell? ⟨g1, o1 + q, none⟩ = some x1 := (hr.out.w.cell (p := ⟨g1, o1 + q, none⟩) hg1).trans p1
          have hrl1 := HR.out r (List.mem_of_getElem? hrr)
          have HTK := Lib.hid (take_one hrr)
          have HC := queue_al hr.out.a x1 r (s1.kept hr.out.w) (by omega)
          have hqI : (q : Int) < (rs.length : Int) := by omega
          have hq0 : (0 : Int) ≤ (q : Int) := by omega
          have hrep := hr.out.p.reply
          rw [List.length_take_of_le hq] at hrep
          clear hrr p1 s1
          by_cases hqk : q < 1024
          · rw [hrep.1 hqk] at HC
            replace HC := Lib.hid HC
            have hqI2 : (q : Int) < 1024 := by omega
            clear hrep
            go_wp2_with fail
            ((with_reducible refine HC.out.mono ?_); rintro e w8 ⟨rfl, e8⟩)
            have H8 := Lib.hid (show AtQ w b w6.heap.size w7.heap.size S1 (.slice a7 S1.keys.length c7) (rs.take (q + 1)) (T.push r) w8 by rw [HTK.out]; exact hr.out.next r hrl1 e8)
            clear e8
            go_wp2
            go_roundw
            case rel => exact ⟨q + 1, T.push r, by omega, by go_num, H8.out.below ((Below.refl _ _).alloc (Nat.le_refl _) _)⟩
            case measure => simp [intOf]; omega
          · rw [hrep.2 (by omega)] at HC
            replace HC := Lib.hid HC
            have hqI2 : ¬ (q : Int) < 1024 := by omega
            clear hrep
            go_wp2_with fail
            ((with_reducible refine HC.out.mono ?_); rintro e w8 ⟨rfl, e8⟩)
            have H8 := Lib.hid (show AtQ w b w6.heap.size w7.heap.size S1 (.slice a7 S1.keys.length c7) (rs.take (q + 1)) (T.push r) w8 by rw [HTK.out]; exact hr.out.next r hrl1 e8)
            clear e8
            go_wp2
            go_roundw
            case rel => exact ⟨q + 1, T.push r, by omega, by go_num, H8.out.below ((Below.refl _ _).alloc (Nat.le_refl _) _)⟩
            case measure => simp [intOf]; omega
        · obtain rfl : q = rs.length := by omega
          have H8 := Lib.hid (show AtQ w b w6.heap.size w7.heap.size S1 (.slice a7 S1.keys.length c7) rs T wr by have := hr.out; rwa [List.take_length] at this)
          have HC := Lib.hid (touch_al H8.out.a (.slice to_ ts.length tc) ts (HT.out.kept H8.out.w) HS.out (by omega))
          clear hr
          obtain ⟨w8, hw8⟩ : ∃ w8, w8 = wr := ⟨_, rfl⟩
          subst hw8
          go_wp2_with fail
          ((with_reducible refine HC.out.mono ?_); rintro e w9 ⟨rfl, a9, b9, r9⟩)
          have H9 := Lib.hid (And.intro a9 (And.intro (H8.out.w.trans b9) (H8.out.z.kept r9)))
          clear a9 b9 r9
          go_wp2_with fail
          go_loopw [12, 16] (fun d i wr => ∃ (q : Nat) (dq : Bool), q ≤ ts.length ∧ d = .bool dq ∧ i = .int .i64 q ∧ Hid (dq = AnyIn S1 D (ts.take q)) ∧ Hid (w9 = wr)) (fun _ i _ => ts.length - (intOf i).toNat)
          case atStart => exact ⟨0, D, Nat.zero_le _, rfl, rfl, by show _ = _; simp [AnyIn], rfl⟩
          case round =>
            obtain ⟨q, dq, hq, rfl, rfl, hdq, hwr⟩ := hrel
            obtain rfl := hwr.out
            clear hwr
            by_cases hql : q < ts.length
            · obtain ⟨y, hy⟩ : ∃ y, ts[q]? = some y := ⟨_, List.getElem?_eq_getElem hql⟩
              obtain ⟨ao2, cp2, e2, hh⟩ := HT.out
              cases e2
              rcases hh with h0 | ⟨g1, o1, rfl, hg1, hc1⟩
              · rw [h0] at hql; simp at hql
              have q1 : w9.cell? ⟨g1, o1 + q, none⟩ = some (.string y) := (H9.out.2.1.cell (p := ⟨g1, o1 + q, none⟩) hg1).trans (hc1 q y hy)
              have HTK := Lib.hid (take_one hy)
              have HC := Lib.hid (has_any (sortK S1.keys) _ y (by rw [sortK_length]; have := H7.out.a.facts; omega) w9 H9.out.2.2.trow)
              have hqI : (q : Int) < (ts.length : Int) := by omega
              have hq0 : (0 : Int) ≤ (q : Int) := by omega
              clear hy hc1 hg1
              rcases dq with _ | _
              · go_wp2_with fail
                ((with_reducible refine HC.out.mono ?_); rintro e w10 ⟨rfl, rfl⟩)
                go_wp2
                go_roundw
                case rel => exact ⟨q + 1, _, by omega, rfl, by go_num, by show _ = _; rw [HTK.out, AnyIn.snoc, ← hdq.out, Bool.false_or]; simp only [mem_sortK], by first | exact rfl | exact trivial⟩
                case measure => simp [intOf]; omega
              · go_wp2
                go_roundw
                case rel => exact ⟨q + 1, true, by omega, rfl, by go_num, by show _ = _; rw [HTK.out, AnyIn.snoc, ← hdq.out, Bool.true_or], by first | exact rfl | exact trivial⟩
                case measure => simp [intOf]; omega
            · obtain rfl : q = ts.length := by omega
              have HDQ := Lib.hid (show (T.touch ts).dirty = dq by rw [touch_dirty H8.out.p HD1.out, hdq.out, List.take_length])
              have HE := exec_al H9.out.1
              unfold ExecAl at HE
              clear hdq
              by_cases hmany : 1024 < rs.length
              · obtain ⟨x1, x2, x3⟩ := exec_many (U := T.touch ts) H8.out.p.multi (H8.out.p.many hmany)
                rw [x1, x2, x3] at HE
                replace HE := Lib.hid HE
                have hmI : (1024 : Int) < (rs.length : Int) := by omega
                clear x1 x2 x3
                go_wp2_with fail
                (refine HE.out.mono ?_; rintro e w10 ⟨v10, rfl, l10, a10, b10, -⟩)
                obtain ⟨va, vc, rfl⟩ := l10.shape
                have H10 := Lib.hid (And.intro a10 (H9.out.2.1.trans b10))
                have HM := multi_al a10
                rw [show (T.touch ts).gone.multi = false from rfl] at HM
                replace HM := Lib.hid HM
                clear l10 a10 b10
                go_wp2_with fail
                ((with_reducible refine HM.out.mono ?_); rintro e w11 ⟨rfl, rfl⟩)
                go_wp2
                go_ret
                exact ⟨rfl, H10.out.2⟩
              · obtain ⟨f1, f2⟩ := H8.out.p.few (by omega)
                have hmI : ¬ (1024 : Int) < (rs.length : Int) := by omega
                rcases dq with _ | _
                · obtain ⟨x1, x2, x3⟩ := exec_runs (U := T.touch ts) H8.out.p.multi f2 HDQ.out
                  rw [x1, x2, x3, show (T.touch ts).queue = rs.map listsB from f1, textsB_listsB] at HE
                  replace HE := Lib.hid HE
                  clear x1 x2 x3 f1 f2
                  go_wp2_with fail
                  (refine HE.out.mono ?_; rintro e w10 ⟨v10, rfl, l10, a10, b10, -⟩)
                  obtain ⟨va, vc, rfl⟩ := l10.shape
                  have HB10 := Lib.hid (H9.out.2.1.trans b10)
                  have HA10 := Lib.hid a10
                  have HSQ := Lib.hid (sameQ_any rs _ (.slice lo rs.length lc) (by omega) (fun r hr => by have := HR.out r hr; omega) w10 l10 (HL.out.kept HB10.out))
                  clear l10 a10 b10
                  go_wp2_with fail
                  ((with_reducible refine HSQ.out.mono ?_); rintro e w11 ⟨rfl, n11, e11⟩)
                  have H10 := Lib.hid (show Alone w.heap.size b w6.heap.size w7.heap.size (T.touch ts).gone w11 ∧ Below w.heap.size w w11 by rw [e11]; exact ⟨HA10.out.below (below_drewN (Below.refl _ _) n11), below_drewN HB10.out n11⟩)
                  clear e11
                  have HE2 := exec_al H10.out.1
                  unfold ExecAl at HE2
                  rw [exec_gone.1, exec_gone.2.1, exec_gone.2.2] at HE2
                  replace HE2 := Lib.hid HE2
                  go_wp2_with fail
                  (refine HE2.out.mono ?_; rintro e w12 ⟨v12, rfl, l12, a12, b12, -⟩)
                  have H12 := Lib.hid (And.intro a12 (H10.out.2.trans b12))
                  have HD2 := dirty_al a12
                  rw [show (T.touch ts).gone.dirty = false from rfl] at HD2
                  replace HD2 := Lib.hid HD2
                  have HR2 := refused_al a12
                  rw [show (T.touch ts).gone.refused = false from rfl] at HR2
                  replace HR2 := Lib.hid HR2
                  have HW2 := watched_al a12
                  rw [show (T.touch ts).gone.keys.length = 0 from rfl] at HW2
                  replace HW2 := Lib.hid HW2
                  clear l12 a12 b12
                  go_wp2_with fail
                  ((with_reducible refine HD2.out.mono ?_); rintro e w13 ⟨rfl, rfl⟩)
                  go_wp2_with fail
                  ((with_reducible refine HR2.out.mono ?_); rintro e w13 ⟨rfl, rfl⟩)
                  go_wp2_with fail
                  ((with_reducible refine HW2.out.mono ?_); rintro e w13 ⟨a13, c13, rfl, b13⟩)
                  have H13 := Lib.hid (And.intro (H12.out.1.below b13) (H12.out.2.trans (b13.mono H12.out.2.size)))
                  have HQ2 := queued_al H13.out.1 QOk.gone
                  rw [show (T.touch ts).gone.queue.length = 0 from rfl] at HQ2
                  replace HQ2 := Lib.hid HQ2
                  clear b13
                  go_wp2_with fail
                  ((with_reducible refine HQ2.out.mono ?_); rintro e w14 ⟨a14, c14, rfl, b14⟩)
                  have H14 := Lib.hid (H13.out.2.trans (b14.mono H13.out.2.size))
                  clear b14
                  go_wp2
                  go_ret
                  exact ⟨rfl, H14.out⟩
                · obtain ⟨x1, x2, x3⟩ := exec_dirty (U := T.touch ts) H8.out.p.multi f2 HDQ.out
                  rw [x1, x2, x3] at HE
                  replace HE := Lib.hid HE
                  clear x1 x2 x3 f1 f2
                  go_wp2_with fail
                  (refine HE.out.mono ?_; rintro e w11 ⟨v10, rfl, l10, a10, b10, -⟩)
                  obtain ⟨va, vc, rfl⟩ := l10.shape
                  have H10 := Lib.hid (And.intro a10 (H9.out.2.1.trans b10))
                  clear l10 a10 b10
                  have HE2 := exec_al H10.out.1
                  unfold ExecAl at HE2
                  rw [exec_gone.1, exec_gone.2.1, exec_gone.2.2] at HE2
                  replace HE2 := Lib.hid HE2
                  go_wp2_with fail
                  (refine HE2.out.mono ?_; rintro e w12 ⟨v12, rfl, l12, a12, b12, -⟩)
                  have H12 := Lib.hid (And.intro a12 (H10.out.2.trans b12))
                  have HD2 := dirty_al a12
                  rw [show (T.touch ts).gone.dirty = false from rfl] at HD2
                  replace HD2 := Lib.hid HD2
                  have HR2 := refused_al a12
                  rw [show (T.touch ts).gone.refused = false from rfl] at HR2
                  replace HR2 := Lib.hid HR2
                  have HW2 := watched_al a12
                  rw [show (T.touch ts).gone.keys.length = 0 from rfl] at HW2
                  replace HW2 := Lib.hid HW2
                  clear l12 a12 b12
                  go_wp2_with fail
                  ((with_reducible refine HD2.out.mono ?_); rintro e w13 ⟨rfl, rfl⟩)
                  go_wp2_with fail
                  ((with_reducible refine HR2.out.mono ?_); rintro e w13 ⟨rfl, rfl⟩)
                  go_wp2_with fail
                  ((with_reducible refine HW2.out.mono ?_); rintro e w13 ⟨a13, c13, rfl, b13⟩)
                  have H13 := Lib.hid (And.intro (H12.out.1.below b13) (H12.out.2.trans (b13.mono H12.out.2.size)))
                  have HQ2 := queued_al H13.out.1 QOk.gone
                  rw [show (T.touch ts).gone.queue.length = 0 from rfl] at HQ2
                  replace HQ2 := Lib.hid HQ2
                  clear b13
                  go_wp2_with fail
                  ((with_reducible refine HQ2.out.mono ?_); rintro e w14 ⟨a14, c14, rfl, b14⟩)
                  have H14 := Lib.hid (H13.out.2.trans (b14.mono H13.out.2.size))
                  clear b14
                  go_wp2
                  go_ret
                  exact ⟨rfl, H14.out⟩
end Go.Proofs.Ytflhcffpfiameaa
