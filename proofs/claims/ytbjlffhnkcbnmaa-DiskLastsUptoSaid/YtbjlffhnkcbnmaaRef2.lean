/- The document's disk: with, change. -/
import Derived.Deep.RegionHeld
import Derived.Test.YtbjlffhnkcbnmaaRef1
import Derived.Test.YtbjlffhnkcbnmaaPlainDisk3
namespace Go.Proofs.Ytbjlffhnkcbnmaa
open Go.ChangeShapes Go.WideShapes Go.ChangeAt Go.RowKit Pl
set_option linter.unusedVariables false

/-- A row of names that the call owns. -/
def ONRow (B : Nat) (w : World) (v : Value) (l : Nm) : Prop := w.ownsRow B 102 2 v l.length (nmRow l)
theorem owns_low {w : World} {B C : Nat} {e : TypeId} {k n : Nat} {v : Value} {xs : List Value} (h : w.ownsRow B e k v n xs) (hc : C ≤ B) : w.ownsRow C e k v n xs :=
  ⟨h.1, h.2.imp id fun ⟨g, cap, cur, e, hb, r⟩ => ⟨g, cap, cur, e, Nat.le_trans hc hb, r⟩⟩
theorem ONRow.nrow {B : Nat} {w : World} {v : Value} {l : Nm} (h : ONRow B w v l) : NRow w (fun k => B ≤ k) v l := ⟨owns_low h (Nat.zero_le _), fun g hg => (World.ownsRow.lt h g hg).1⟩
theorem ONRow.shape {B : Nat} {w : World} {v : Value} {l : Nm} (h : ONRow B w v l) : ∃ ao cp, v = .slice ao l.length cp := h.nrow.shape
/-- How far 'with' is. -/
def outW (n : Tx) (f : Nat) (A B : Nm) (k : Nat) : Nm := if k ≤ A.length then A.take k else A ++ (n, f) :: B.take (k - A.length)
theorem outW_zero (n : Tx) (f : Nat) (A B : Nm) : outW n f A B 0 = [] := by simp [outW]
theorem outW_lo {n : Tx} {f : Nat} {A B : Nm} {k : Nat} {p : Tx × Nat} (h : k < A.length) (hp : (A ++ B)[k]? = some p) : p ∈ A ∧ outW n f A B (k + 1) = outW n f A B k ++ [p] := by
  rw [List.getElem?_append_left h] at hp
  refine ⟨List.mem_of_getElem? hp, ?_⟩
  unfold outW
  rw [if_pos (by omega), if_pos (by omega), List.take_add_one, hp]; rfl
theorem outW_mid {n : Tx} {f : Nat} {A B : Nm} {p : Tx × Nat} (hp : (A ++ B)[A.length]? = some p) : p ∈ B ∧ outW n f A B A.length = A ∧ outW n f A B (A.length + 1) = (outW n f A B A.length ++ [(n, f)]) ++ [p] := by
  rw [List.getElem?_append_right (Nat.le_refl _), Nat.sub_self] at hp
  have h1 : outW n f A B A.length = A := by unfold outW; rw [if_pos (Nat.le_refl _), List.take_length]
  refine ⟨List.mem_of_getElem? hp, h1, ?_⟩
  rw [h1]
  unfold outW
  rw [if_neg (by omega), show A.length + 1 - A.length = 0 + 1 by omega, List.take_add_one, hp]; simp
theorem outW_hi {n : Tx} {f : Nat} {A B : Nm} {k : Nat} {p : Tx × Nat} (h : A.length < k) (hp : (A ++ B)[k]? = some p) : p ∈ B ∧ outW n f A B (k + 1) = outW n f A B k ++ [p] ∧ ∃ M q, outW n f A B k = M ++ [q] ∧ q ∈ B := by
  rw [List.getElem?_append_right (by omega)] at hp
  refine ⟨List.mem_of_getElem? hp, ?_, ?_⟩
  · unfold outW
    rw [if_neg (by omega), if_neg (by omega), show k + 1 - A.length = (k - A.length) + 1 by omega, List.take_add_one, hp]; simp
  · have hkb := (List.getElem?_eq_some_iff.1 hp).1
    obtain ⟨q, hq⟩ : ∃ q, B[k - A.length - 1]? = some q := ⟨_, List.getElem?_eq_getElem (by omega)⟩
    refine ⟨A ++ (n, f) :: B.take (k - A.length - 1), q, ?_, List.mem_of_getElem? hq⟩
    unfold outW
    rw [if_neg (by omega)]
    have e : k - A.length = (k - A.length - 1) + 1 := by omega
    rw [e, List.take_add_one, show (k - A.length - 1) + 1 - 1 = k - A.length - 1 by omega, hq]; simp
theorem outW_end {n : Tx} {f : Nat} {A B : Nm} : outW n f A B (A ++ B).length = if B = [] then A else A ++ (n, f) :: B := by
  unfold outW
  rw [List.length_append]
  by_cases h : B = []
  · subst h; simp
  · have : 0 < B.length := List.length_pos_iff.2 h
    rw [if_neg (by omega), if_neg h, show A.length + B.length - A.length = B.length by omega, List.take_length]
theorem outW_len {n : Tx} {f : Nat} {A B : Nm} {k : Nat} (hk : k ≤ (A ++ B).length) : (outW n f A B k).length ≤ (A ++ B).length + 1 := by
  rw [List.length_append] at hk ⊢
  unfold outW
  split
  · rw [List.length_take]; omega
  · rw [List.length_append, List.length_cons, List.length_take]; omega
set_option maxRecDepth 100000 in
set_option maxHeartbeats 1600000 in
theorem refWith_any {w : World} {F : Nat → Prop} {v : Value} {l : Nm} (h : NRow w F v l) (hr : RisN l) (hl : l.length ≤ 4194304) (n : Tx) (f : Nat) :
    Calls Try.prog 58 #[v, .string (str n), .int .i64 f] w (MadeN w.heap.size (wi l n f) w) := by
  obtain ⟨ao, cp, rfl⟩ := h.shape
  obtain ⟨A, B, C⟩ := insF_cut n f (wo l n) (ris_wo hr n) (wo_ne l n)
  have HC := Lib.hid C
  have hLl : (wo l n).length ≤ 4194304 := Nat.le_trans (List.length_filter_le _ _) hl
  have HWo := Lib.hid (refWithout_any h hl n)
  have HI := Lib.hid (show wi l n f = A ++ (n, f) :: B from C.ins)
  obtain ⟨L, hL⟩ : ∃ L, wo l n = L := ⟨_, rfl⟩
  rw [hL] at HC hLl HWo
  clear h hr C hL
  go_enter Try.func58, Try.ntmps58
  go_wp2_with fail
  ((with_reducible refine HWo.out.mono ?_); rintro e w1 ⟨v1, rfl, o1, b1⟩)
  have o1 : ONRow w.heap.size w1 v1 L := o1
  obtain ⟨a1, c1, rfl⟩ := o1.shape
  have H1 := Lib.hid (show NRow w1 (fun k => w.heap.size ≤ k ∧ k < w1.heap.size) (.slice a1 L.length c1) L from ⟨o1.nrow.1, fun g hg => World.ownsRow.lt o1 g hg⟩)
  have HB1 := Lib.hid b1
  have hz1 := b1.size
  have HE := Lib.hid (show L = A ++ B from HC.out.eq)
  have hAB : (A ++ B).length = L.length := by rw [HE.out]
  clear o1 b1
  go_wp2_with fail
  go_loopw [7, 8] (fun o i wr => ∃ (k : Nat) (ov : Value), k ≤ L.length ∧ i = .int .i64 k ∧ ov = o ∧ Hid (ONRow w1.heap.size wr ov (outW n f A B k)) ∧ Hid (Below w1.heap.size w1 wr)) (fun _ i _ => L.length - (intOf i).toNat)
  case atStart => exact ⟨0, _, Nat.zero_le _, rfl, rfl, by show World.ownsRow _ _ _ _ _ _ _; rw [outW_zero]; exact World.ownsRow_nil _ _ _ _, Below.refl _ _⟩
  case round =>
    obtain ⟨k, ov, hk, rfl, rfl, hr, hw⟩ := hrel
    obtain ⟨wk, hwk⟩ : ∃ wk, wk = wr := ⟨_, rfl⟩
    subst hwk
    have hsz := hw.out.size
    have hle : (outW n f A B k).length ≤ 4194305 := Nat.le_trans (outW_len (by omega)) (by omega)
    obtain ⟨M, hM⟩ : ∃ M, outW n f A B k = M := ⟨_, rfl⟩
    rw [hM] at hr hle
    obtain ⟨oa, oc, rfl⟩ := hr.out.shape
    by_cases hlt : k < L.length
    · obtain ⟨p, hp⟩ : ∃ p, L[k]? = some p := ⟨_, List.getElem?_eq_getElem hlt⟩
      have HAt := Lib.hid (fun w' (h : Below w1.heap.size w1 w') => (H1.out.kept (Wr.of_below (F := fun _ => False) h) (fun _ _ h => h)).at_ hp)
      obtain ⟨g, rfl, hF, hg, h0, h1⟩ := HAt.out _ hw.out
      have hkI : (k : Int) < (L.length : Int) := by omega
      have hk0 : (0 : Int) ≤ (k : Int) := by omega
      rw [HE.out] at hp
      rcases Nat.lt_trichotomy k A.length with hka | hka | hka
      · obtain ⟨hpA, hnext⟩ := outW_lo (n := n) (f := f) hka hp
        have hb : Op.bytesLess (str n).toList (str p.1).toList = false := by rw [less_str, decide_eq_false (ltA (HC.out.lo p hpA))]
        rw [hM] at hnext
        have HN := Lib.hid hnext
        clear hpA hnext hp hM
        skip
        go_wp2_with (at_builtin; refine wpList_append_two wk rfl (.tmp 47) (.tmp 52) 49 rfl w1.heap.size 102 _ 24 Try.underlying49 infoName rfl (.slice _ M.length oc) M.length (nmRow M) rfl hr.out (.string (str p.1)) (.int .i64 p.2) rfl rfl (by simp [Act.eval]) (by unfold maxLen; omega) (by omega) hsz ?_)
        intro v2 w2 hown2 hg2 hB2
        have HO := Lib.hid hown2
        have HB := Lib.hid (hB2 w1 _ hw.out (Nat.le_refl _))
        clear hown2 hg2 hB2
        go_wp2
        go_roundw
        case rel => exact ⟨k + 1, _, by omega, by go_num, rfl, by show World.ownsRow _ _ _ _ _ _ _; rw [HN.out, List.length_append, nmRow_snoc]; exact HO.out, HB.out⟩
        case measure => simp [intOf]; omega
      · subst hka
        obtain ⟨hpB, hMA, hnext⟩ := outW_mid (n := n) (f := f) hp
        have hb : Op.bytesLess (str n).toList (str p.1).toList = true := by rw [less_str, decide_eq_true (HC.out.hi p hpB)]
        rw [hM] at hnext
        have HN := Lib.hid hnext
        have eMA : M = A := hM.symm.trans hMA
        by_cases hA : A.length = 0
        · have hl0 : ((M.length : Int) == 0) = true := by rw [eMA, hA]; rfl
          clear hpB hnext hp hM hMA eMA hA
          skip
          go_wp2_with (at_builtin; refine wpList_append_two wk rfl (.tmp 41) (.tmp 45) 49 rfl w1.heap.size 102 _ 24 Try.underlying49 infoName rfl (.slice _ M.length oc) M.length (nmRow M) rfl hr.out (.string (str n)) (.int .i64 f) rfl rfl (by simp [Act.eval]) (by unfold maxLen; omega) (by omega) hsz ?_)
          intro vi wi hown2 hg2 hB2
          have HOi := Lib.hid hown2
          have HBi := Lib.hid (hB2 w1 _ hw.out (Nat.le_refl _))
          have hszi := HBi.out.size
          obtain ⟨gi, ei, hFi, hgi, h0i, h1i⟩ := HAt.out _ HBi.out
          obtain rfl : g = gi := by simpa using ei
          clear hown2 hg2 hB2 ei
          go_wp2_with (at_builtin; refine wpList_append_two wi rfl (.tmp 47) (.tmp 52) 49 rfl w1.heap.size 102 _ 24 Try.underlying49 infoName rfl vi (M.length + 1) (nmRow M ++ [.string (str n), .int .i64 f]) rfl HOi.out (.string (str p.1)) (.int .i64 p.2) rfl rfl (by simp [Act.eval]) (by unfold maxLen; omega) (by omega) hszi ?_)
          intro v2 w2 hown2 hg2 hB2
          have HO := Lib.hid hown2
          have HB := Lib.hid (hB2 w1 _ HBi.out (Nat.le_refl _))
          clear hown2 hg2 hB2
          go_wp2
          go_roundw
          case rel => exact ⟨A.length + 1, _, by omega, by go_num, rfl, by show World.ownsRow _ _ _ _ _ _ _; rw [HN.out, List.length_append, List.length_append, nmRow_snoc, nmRow_snoc, List.append_assoc]; exact HO.out, HB.out⟩
          case measure => simp [intOf]; omega
        · have hm : M.length = (M.length - 1) + 1 := by rw [eMA]; omega
          obtain ⟨m, hmm⟩ : ∃ m, M.length - 1 = m := ⟨_, rfl⟩
          rw [hmm] at hm
          obtain ⟨q, hq⟩ : ∃ q, M[m]? = some q := ⟨_, List.getElem?_eq_getElem (by omega)⟩
          have hqA : q ∈ A := by rw [← eMA]; exact List.mem_of_getElem? hq
          have hb2 : Op.bytesLess (str q.1).toList (str n).toList = true := by rw [less_str, decide_eq_true (HC.out.lo q hqA)]
          obtain ⟨go, rfl, -, hgo, q0, q1⟩ := hr.out.nrow.at_ hq
          have hl0 : ((M.length : Int) == 0) = false := by rw [beq_eq_false_iff_ne]; omega
          have hw1 : IntKind.i64.wrap ((M.length : Int) - 1) = (m : Int) := by rw [IntWalk.i64_in _ (by omega)]; omega
          have hmI : (m : Int) < (M.length : Int) := by omega
          have hm0 : (0 : Int) ≤ (m : Int) := by omega
          clear hpB hnext hp hM hMA eMA hA hm hmm hq hqA
          skip
          go_wp2_with (at_builtin; refine wpList_append_two wk rfl (.tmp 41) (.tmp 45) 49 rfl w1.heap.size 102 _ 24 Try.underlying49 infoName rfl (.slice _ M.length oc) M.length (nmRow M) rfl hr.out (.string (str n)) (.int .i64 f) rfl rfl (by simp [Act.eval]) (by unfold maxLen; omega) (by omega) hsz ?_)
          intro vi wi hown2 hg2 hB2
          have HOi := Lib.hid hown2
          have HBi := Lib.hid (hB2 w1 _ hw.out (Nat.le_refl _))
          have hszi := HBi.out.size
          obtain ⟨gi, ei, hFi, hgi, h0i, h1i⟩ := HAt.out _ HBi.out
          obtain rfl : g = gi := by simpa using ei
          clear hown2 hg2 hB2 ei
          go_wp2_with (at_builtin; refine wpList_append_two wi rfl (.tmp 47) (.tmp 52) 49 rfl w1.heap.size 102 _ 24 Try.underlying49 infoName rfl vi (M.length + 1) (nmRow M ++ [.string (str n), .int .i64 f]) rfl HOi.out (.string (str p.1)) (.int .i64 p.2) rfl rfl (by simp [Act.eval]) (by unfold maxLen; omega) (by omega) hszi ?_)
          intro v2 w2 hown2 hg2 hB2
          have HO := Lib.hid hown2
          have HB := Lib.hid (hB2 w1 _ HBi.out (Nat.le_refl _))
          clear hown2 hg2 hB2
          go_wp2
          go_roundw
          case rel => exact ⟨A.length + 1, _, by omega, by go_num, rfl, by show World.ownsRow _ _ _ _ _ _ _; rw [HN.out, List.length_append, List.length_append, nmRow_snoc, nmRow_snoc, List.append_assoc]; exact HO.out, HB.out⟩
          case measure => simp [intOf]; omega
      · obtain ⟨hpB, hnext, M', q, hMq, hqB⟩ := outW_hi (n := n) (f := f) hka hp
        have hb : Op.bytesLess (str n).toList (str p.1).toList = true := by rw [less_str, decide_eq_true (HC.out.hi p hpB)]
        rw [hM] at hnext hMq
        have HN := Lib.hid hnext
        obtain ⟨m, hmm⟩ : ∃ m, M'.length = m := ⟨_, rfl⟩
        have hm : M.length = m + 1 := by rw [hMq, List.length_append, hmm]; rfl
        have hq : M[m]? = some q := by rw [hMq, ← hmm]; simp
        have hb2 : Op.bytesLess (str q.1).toList (str n).toList = false := by rw [less_str, decide_eq_false (ltA (HC.out.hi q hqB))]
        obtain ⟨go, rfl, -, hgo, q0, q1⟩ := hr.out.nrow.at_ hq
        have hl0 : ((M.length : Int) == 0) = false := by rw [beq_eq_false_iff_ne]; omega
        have hw1 : IntKind.i64.wrap ((M.length : Int) - 1) = (m : Int) := by rw [IntWalk.i64_in _ (by omega)]; omega
        have hmI : (m : Int) < (M.length : Int) := by omega
        have hm0 : (0 : Int) ≤ (m : Int) := by omega
        clear hpB hnext hp hM hMq hqB hm hmm hq
        skip
        go_wp2_with (at_builtin; refine wpList_append_two wk rfl (.tmp 47) (.tmp 52) 49 rfl w1.heap.size 102 _ 24 Try.underlying49 infoName rfl (.slice _ M.length oc) M.length (nmRow M) rfl hr.out (.string (str p.1)) (.int .i64 p.2) rfl rfl (by simp [Act.eval]) (by unfold maxLen; omega) (by omega) hsz ?_)
        intro v2 w2 hown2 hg2 hB2
        have HO := Lib.hid hown2
        have HB := Lib.hid (hB2 w1 _ hw.out (Nat.le_refl _))
        clear hown2 hg2 hB2
        go_wp2
        go_roundw
        case rel => exact ⟨k + 1, _, by omega, by go_num, rfl, by show World.ownsRow _ _ _ _ _ _ _; rw [HN.out, List.length_append, nmRow_snoc]; exact HO.out, HB.out⟩
        case measure => simp [intOf]; omega
    · obtain rfl : k = L.length := by omega
      have hend : M = if B = [] then A else A ++ (n, f) :: B := by rw [← hM, ← hAB, outW_end]
      by_cases hB : B = []
      · rw [if_pos hB] at hend
        have hLM : ((M.length : Int) == (L.length : Int)) = true := by rw [hend, ← hAB, hB, List.append_nil]; simp
        have HF := Lib.hid (show wi l n f = M ++ [(n, f)] from by rw [HI.out, hend, hB])
        clear hend hB hM
        go_wp2_with (at_builtin; refine wpList_append_two wk rfl (.tmp 59) (.tmp 63) 49 rfl w1.heap.size 102 _ 24 Try.underlying49 infoName rfl (.slice _ M.length oc) M.length (nmRow M) rfl hr.out (.string (str n)) (.int .i64 f) rfl rfl (by simp [Act.eval]) (by unfold maxLen; omega) (by omega) hsz ?_)
        intro v2 w2 hown2 hg2 hB2
        have HO := Lib.hid hown2
        have HB := Lib.hid (hB2 w1 _ hw.out (Nat.le_refl _))
        clear hown2 hg2 hB2
        go_wp2
        go_ret
        exact ⟨_, rfl, by rw [HF.out, List.length_append, nmRow_snoc]; exact owns_low HO.out hz1, HB1.out.trans (HB.out.mono hz1)⟩
      · rw [if_neg hB] at hend
        have hBp : 0 < B.length := List.length_pos_iff.2 hB
        have hLM : ((M.length : Int) == (L.length : Int)) = false := by
          rw [beq_eq_false_iff_ne, hend, ← hAB, List.length_append, List.length_append, List.length_cons]; omega
        have HF := Lib.hid (show wi l n f = M from by rw [HI.out, hend])
        clear hend hB hM hBp
        go_wp2
        go_ret
        exact ⟨_, rfl, by rw [HF.out]; exact owns_low hr.out hz1, HB1.out.trans (hw.out.mono hz1)⟩
/-- A change of names, as the document has it. -/
def rcCells (c : Ch) : List Value := [.int .i64 c.kind, strV c.src, strV c.dst, .int .i64 c.file]
def BoxC (b : Nat) (s d : Tx) (f : Nat) (W : World) : Prop := W.cell? ⟨b, 1, none⟩ = some (.string (str s)) ∧ W.cell? ⟨b, 2, none⟩ = some (.string (str d)) ∧ W.cell? ⟨b, 3, none⟩ = some (.int .i64 f)
theorem BoxC.kept {b : Nat} {s d : Tx} {f : Nat} {W W' : World} (h : BoxC b s d f W) (hb : Below W.heap.size W W') (hz : b < W.heap.size) : BoxC b s d f W' :=
  ⟨(hb.cell (by exact hz)).trans h.1, (hb.cell (by exact hz)).trans h.2.1, (hb.cell (by exact hz)).trans h.2.2⟩
theorem change_mid {W w1 : World} {b : Nat} {s d : Tx} {f : Nat} {v1 : Value} {l : Nm} (h : BoxC b s d f W) (hz : b < W.heap.size) (o1 : w1.ownsRow W.heap.size 102 2 v1 l.length (nmRow l)) (b1 : Below W.heap.size W w1) :
    BoxC b s d f w1 ∧ (∀ w', Below w1.heap.size w1 w' → NRow w' (fun k => W.heap.size ≤ k) v1 l) ∧ Below W.heap.size W w1 ∧ b < w1.heap.size :=
  ⟨h.kept b1 hz, fun w' hb => (ONRow.nrow o1).kept (Wr.of_below (F := fun _ => False) hb) (fun _ _ h => h), b1, Nat.lt_of_lt_of_le hz b1.size⟩
theorem change_end {W w1 w2 : World} {b : Nat} {s d : Tx} {f : Nat} {v1 v2 : Value} {l l2 : Nm} (h : BoxC b s d f w1 ∧ (∀ w', Below w1.heap.size w1 w' → NRow w' (fun k => W.heap.size ≤ k) v1 l) ∧ Below W.heap.size W w1 ∧ b < w1.heap.size)
    (o2 : w2.ownsRow w1.heap.size 102 2 v2 l2.length (nmRow l2)) (b2 : Below w1.heap.size w1 w2) : BoxC b s d f w2 ∧ w2.ownsRow W.heap.size 102 2 v2 l2.length (nmRow l2) ∧ Below W.heap.size W w2 :=
  ⟨h.1.kept b2 h.2.2.2, owns_low o2 h.2.2.1.size, h.2.2.1.trans (b2.mono h.2.2.1.size)⟩
set_option maxRecDepth 100000 in
theorem refChange_any {w : World} {F : Nat → Prop} {v : Value} {l : Nm} (h : NRow w F v l) (hr : RisN l) (hl : l.length ≤ 4194304) (c : Ch) (hc : 1 ≤ c.kind ∧ c.kind ≤ 3) :
    Calls Try.prog 50 #[v, .agg (rcCells c).toArray] w (MadeN w.heap.size (change l c) w) := by
  obtain ⟨ao, cp, rfl⟩ := h.shape
  obtain ⟨k, s, d, f⟩ := c
  show Calls _ _ #[.slice ao l.length cp, .agg #[.int .i64 k, .string (str s), .string (str d), .int .i64 f]] w _
  have HB := Lib.hid (fun o => (Below.refl w.heap.size w).alloc (Nat.le_refl _) o)
  have HR := Lib.hid hr
  have HH := Lib.hid (show ∀ w', Below w.heap.size w w' → NRow w' (fun k => F k ∧ k < w.heap.size) (.slice ao l.length cp) l from fun w' hb => NRow.kept (show NRow w (fun k => F k ∧ k < w.heap.size) (.slice ao l.length cp) l from ⟨h.1, fun g hg => ⟨h.2 g hg, (h.1.lt g hg).2⟩⟩) (Wr.of_below (F := fun _ => False) hb) (fun _ _ h => h))
  obtain ⟨W0, hW0⟩ : ∃ W0, W0 = w.alloc (.cells #[.int .i64 k, .string (str s), .string (str d), .int .i64 f] 98) := ⟨_, rfl⟩
  have HW := Lib.hid (show Below w.heap.size w W0 from by rw [hW0]; exact HB.out _)
  have hw0 : W0.heap[w.heap.size]? = some (.cells #[.int .i64 k, .string (str s), .string (str d), .int .i64 f] 98 (0, 0)) := by rw [hW0]; exact heap_alloc_new w _
  have HC := Lib.hid (show ∀ n, (W0.drewN n).cell? ⟨w.heap.size, 0, none⟩ = some (.int .i64 k) ∧ (W0.drewN n).cell? ⟨w.heap.size, 1, none⟩ = some (.string (str s)) ∧ (W0.drewN n).cell? ⟨w.heap.size, 2, none⟩ = some (.string (str d)) ∧ (W0.drewN n).cell? ⟨w.heap.size, 3, none⟩ = some (.int .i64 f) from fun n => by
    show W0.cell? _ = _ ∧ W0.cell? _ = _ ∧ W0.cell? _ = _ ∧ W0.cell? _ = _
    simp [World.cell?, hw0])
  have hz : w.heap.size < W0.heap.size := (Array.getElem?_eq_some_iff.1 hw0).1
  have p0 := (HC.out 0).1
  have p1 := (HC.out 0).2.1
  have p2 := (HC.out 0).2.2.1
  have p3 := (HC.out 0).2.2.2
  clear h hr hw0
  replace hc : 1 ≤ k ∧ k ≤ 3 := hc
  by_cases h1 : k = 1
  · have b1 : ((k : Int) == 1) = true := by rw [h1]; rfl
    have HE := Lib.hid (show change l ⟨k, s, d, f⟩ = wi l s f from by unfold change; rw [if_pos h1])
    clear h1 hc
    go_enter Try.func50, Try.ntmps50
    go_wp2_with fail
    rw [← hW0]
    clear hW0
    ((with_reducible refine (refWith_any (HH.out _ HW.out) HR.out hl s f).mono ?_); rintro e w1 ⟨v1, rfl, o1, b1⟩)
    have H1 := Lib.hid (And.intro o1 b1)
    clear o1 b1
    go_wp2
    go_ret
    exact ⟨_, rfl, by rw [HE.out]; exact owns_low H1.out.1 HW.out.size, HW.out.trans (H1.out.2.mono HW.out.size)⟩
  by_cases h2 : k = 2
  · have b1 : ((k : Int) == 1) = false := by rw [h2]; rfl
    have b2 : ((k : Int) == 2) = true := by rw [h2]; rfl
    have HE := Lib.hid (show change l ⟨k, s, d, f⟩ = wi (wo l s) d f from by unfold change; rw [if_neg h1, if_pos h2])
    clear h1 h2 hc
    go_enter Try.func50, Try.ntmps50
    go_wp2_with fail
    rw [← hW0]
    clear hW0
    have hz0 : w.heap.size < W0.heap.size := hz
    refine wp_region_held_drew (S := (fun W => W.cell? ⟨w.heap.size, 1, none⟩ = some (.string (str s)) ∧ W.cell? ⟨w.heap.size, 2, none⟩ = some (.string (str d)) ∧ W.cell? ⟨w.heap.size, 3, none⟩ = some (.int .i64 f))) (by kernel_rfl) ?_ (fun hHeld => ?_)
    · first | exact (HC.out 0).2 | exact C1.out.1 | exact C2.out.1
    refine wpAnyH_take (i := 0) (oi := (Go.Oper.mk (some 17) (Go.Op.move (Go.Operand.tmp 0)) 49 _ #[] none)) (v := ?_) rfl (by kernel_rfl) (by kernel_rfl) (by kernel_rfl) (fun _ _ _ h => h) (Or.inl ⟨by rfl, ?_⟩) hHeld ?_
    rotate_left
    · intro w hSw; (try dsimp only at hSw); go_simp; (try with_reducible rfl)
    simp only [Act.put, List.setIfInBounds_toArray, List.set_cons_zero, List.set_cons_succ]
    refine wpAnyH_take (i := 1) (oi := (Go.Oper.mk (some 18) (Go.Op.fieldAddr 98 (Go.Operand.tmp 3) 1) 0 _ #[] none)) (v := ?_) rfl (by kernel_rfl) (by kernel_rfl) (by kernel_rfl) (fun _ _ _ h => h) (Or.inl ⟨by rfl, ?_⟩) hHeld ?_
    rotate_left
    · intro w hSw; (try dsimp only at hSw); go_simp; (try with_reducible rfl)
    simp only [Act.put, List.setIfInBounds_toArray, List.set_cons_zero, List.set_cons_succ]
    refine wpAnyH_take (i := 2) (oi := (Go.Oper.mk (some 19) (Go.Op.load 9 (Go.Operand.tmp 18)) 9 _ #[Go.Edge.mk 1 Go.Ground.data] none)) (v := ?_) rfl (by kernel_rfl) (by kernel_rfl) (by kernel_rfl) (fun _ _ _ h => h) (Or.inl ⟨by rfl, ?_⟩) hHeld ?_
    rotate_left
    · intro w hSw; (try dsimp only at hSw); go_simp; (try with_reducible rfl)
    simp only [Act.put, List.setIfInBounds_toArray, List.set_cons_zero, List.set_cons_succ]
    refine wpAnyH_take (i := 4) (oi := (Go.Oper.mk (some 21) (Go.Op.fieldAddr 98 (Go.Operand.tmp 3) 2) 0 _ #[] none)) (v := ?_) rfl (by kernel_rfl) (by kernel_rfl) (by kernel_rfl) (fun _ _ _ h => h) (Or.inl ⟨by rfl, ?_⟩) hHeld ?_
    rotate_left
    · intro w hSw; (try dsimp only at hSw); go_simp; (try with_reducible rfl)
    simp only [Act.put, List.setIfInBounds_toArray, List.set_cons_zero, List.set_cons_succ]
    refine wpAnyH_take (i := 5) (oi := (Go.Oper.mk (some 22) (Go.Op.load 9 (Go.Operand.tmp 21)) 9 _ #[Go.Edge.mk 4 Go.Ground.data] none)) (v := ?_) rfl (by kernel_rfl) (by kernel_rfl) (by kernel_rfl) (fun _ _ _ h => h) (Or.inl ⟨by rfl, ?_⟩) hHeld ?_
    rotate_left
    · intro w hSw; (try dsimp only at hSw); go_simp; (try with_reducible rfl)
    simp only [Act.put, List.setIfInBounds_toArray, List.set_cons_zero, List.set_cons_succ]
    refine wpAnyH_take (i := 6) (oi := (Go.Oper.mk (some 23) (Go.Op.fieldAddr 98 (Go.Operand.tmp 3) 3) 0 _ #[] none)) (v := ?_) rfl (by kernel_rfl) (by kernel_rfl) (by kernel_rfl) (fun _ _ _ h => h) (Or.inl ⟨by rfl, ?_⟩) hHeld ?_
    rotate_left
    · intro w hSw; (try dsimp only at hSw); go_simp; (try with_reducible rfl)
    simp only [Act.put, List.setIfInBounds_toArray, List.set_cons_zero, List.set_cons_succ]
    refine wpAnyH_take (i := 7) (oi := (Go.Oper.mk (some 24) (Go.Op.load 3 (Go.Operand.tmp 23)) 3 _ #[Go.Edge.mk 6 Go.Ground.data] none)) (v := ?_) rfl (by kernel_rfl) (by kernel_rfl) (by kernel_rfl) (fun _ _ _ h => h) (Or.inl ⟨by rfl, ?_⟩) hHeld ?_
    rotate_left
    · intro w hSw; (try dsimp only at hSw); go_simp; (try with_reducible rfl)
    simp only [Act.put, List.setIfInBounds_toArray, List.set_cons_zero, List.set_cons_succ]
    refine wpAnyH_ready (rs := [3]) (by kernel_rfl) (by simp) ?_
    refine AllReadyH.cons (o := (Go.Oper.mk (some 20) (Go.Op.call (Go.Call.mk (Go.Callee.value (Go.Operand.func 59)) #[Go.Operand.tmp 17, Go.Operand.tmp 19] #[49, 9])) 49 _ #[Go.Edge.mk 0 Go.Ground.data, Go.Edge.mk 2 Go.Ground.data] none)) rfl (fun K hK => ?_) AllReadyH.nil
    go_simp
    first | (go_at_call 59; (refine (refWithout_any (HH.out _ ?_) hl s).mono ?_); (exact HW.out.drew); rintro e w1 ⟨v1, rfl, o1, b1⟩; have C1 := Lib.hid (change_mid (W := W0.drew) (b := w.heap.size) (s := s) (d := d) (f := f) (HC.out 0).2 hz0 o1 b1); clear o1 b1) | (go_at_call 58; (refine (refWith_any (v := v1) (C1.out.2.1 _ ?_) (ris_wo HR.out s) (Nat.le_trans (List.length_filter_le _ _) hl) d f).mono ?_); (first | exact Below.refl _ _ | exact (Below.refl _ _).drew | exact below_drewN (Below.refl _ _) _); rintro e w2 ⟨v2, rfl, o2, b2⟩; have C2 := Lib.hid (change_end C1.out o2 b2); clear o2 b2)
    go_wp2_with fail
    refine hK.out _ _ ?_ (fun hHeld => ?_)
    · first | exact (HC.out 0).2 | exact C1.out.1 | exact C2.out.1
    clear hK K
    (try simp only [Act.put, List.setIfInBounds_toArray, List.set_cons_zero, List.set_cons_succ])
    refine wpAnyH_ready (rs := [8]) (by kernel_rfl) (by simp) ?_
    refine AllReadyH.cons (o := (Go.Oper.mk (some 25) (Go.Op.call (Go.Call.mk (Go.Callee.value (Go.Operand.func 58)) #[Go.Operand.tmp 20, Go.Operand.tmp 22, Go.Operand.tmp 24] #[49, 9, 3])) 49 _ #[Go.Edge.mk 3 Go.Ground.data, Go.Edge.mk 5 Go.Ground.data, Go.Edge.mk 7 Go.Ground.data, Go.Edge.mk 3 Go.Ground.chain] none)) rfl (fun K hK => ?_) AllReadyH.nil
    go_simp
    first | (go_at_call 59; (refine (refWithout_any (HH.out _ ?_) hl s).mono ?_); (exact HW.out.drew); rintro e w1 ⟨v1, rfl, o1, b1⟩; have C1 := Lib.hid (change_mid (W := W0.drew) (b := w.heap.size) (s := s) (d := d) (f := f) (HC.out 0).2 hz0 o1 b1); clear o1 b1) | (go_at_call 58; (refine (refWith_any (v := v1) (C1.out.2.1 _ ?_) (ris_wo HR.out s) (Nat.le_trans (List.length_filter_le _ _) hl) d f).mono ?_); (first | exact Below.refl _ _ | exact (Below.refl _ _).drew | exact below_drewN (Below.refl _ _) _); rintro e w2 ⟨v2, rfl, o2, b2⟩; have C2 := Lib.hid (change_end C1.out o2 b2); clear o2 b2)
    go_wp2_with fail
    refine hK.out _ _ ?_ (fun hHeld => ?_)
    · first | exact (HC.out 0).2 | exact C1.out.1 | exact C2.out.1
    clear hK K
    (try simp only [Act.put, List.setIfInBounds_toArray, List.set_cons_zero, List.set_cons_succ])
    refine wpAnyH_take (i := 9) (oi := (Go.Oper.mk (some 4) (Go.Op.assign (Go.Operand.tmp 25)) 49 _ #[Go.Edge.mk 8 Go.Ground.data, Go.Edge.mk 8 Go.Ground.chain, Go.Edge.mk 0 Go.Ground.phase, Go.Edge.mk 1 Go.Ground.phase, Go.Edge.mk 2 Go.Ground.phase, Go.Edge.mk 3 Go.Ground.phase, Go.Edge.mk 4 Go.Ground.phase, Go.Edge.mk 5 Go.Ground.phase, Go.Edge.mk 6 Go.Ground.phase, Go.Edge.mk 7 Go.Ground.phase, Go.Edge.mk 8 Go.Ground.phase] none)) (v := ?_) rfl (by kernel_rfl) (by kernel_rfl) (by kernel_rfl) (fun _ _ _ h => h) (Or.inl ⟨by rfl, ?_⟩) hHeld ?_
    rotate_left
    · intro w hSw; (try dsimp only at hSw); go_simp; (try with_reducible rfl)
    simp only [Act.put, List.setIfInBounds_toArray, List.set_cons_zero, List.set_cons_succ]
    refine wpAnyH_done (by kernel_rfl) ?_ _
    go_wp2
    go_ret
    exact ⟨_, rfl, by rw [HE.out]; exact owns_low C2.out.2.1 HW.out.size, HW.out.drew.trans (C2.out.2.2.mono HW.out.size)⟩
  have b1 : ((k : Int) == 1) = false := by rw [beq_eq_false_iff_ne]; omega
  have b2 : ((k : Int) == 2) = false := by rw [beq_eq_false_iff_ne]; omega
  have HE := Lib.hid (show change l ⟨k, s, d, f⟩ = wo l s from by unfold change; rw [if_neg h1, if_neg h2])
  clear h1 h2 hc
  go_enter Try.func50, Try.ntmps50
  go_wp2_with fail
  rw [← hW0]
  clear hW0
  ((with_reducible refine (refWithout_any (HH.out _ HW.out) hl s).mono ?_); rintro e w1 ⟨v1, rfl, o1, b1⟩)
  have H1 := Lib.hid (And.intro o1 b1)
  clear o1 b1
  go_wp2
  go_ret
  exact ⟨_, rfl, by rw [HE.out]; exact owns_low H1.out.1 HW.out.size, HW.out.trans (H1.out.2.mono HW.out.size)⟩
end Go.Proofs.Ytbjlffhnkcbnmaa
