/- bulk: the program's. -/
import Derived.Test.YtpngmbdchceikaaDoorNum2
import Derived.Test.YtpngmbdchceikaaDoorTwin
import Derived.Test.YtpngmbdchceikaaDoorPlainResp3
namespace Go.Proofs.YtpngmbdchceikaaDoor
open Go.ChangeShapes Go.WideShapes Go.ChangeAt Go.RowKit
open Pl (R Rd)
set_option linter.unusedVariables false

abbrev zeroR : Value := .agg #[.int .i64 0, .string ⟨#[]⟩, .int .i64 0, .slice none 0 0]
/-- What a reader of one reply gives; p: where its text begins. -/
def RdEnd (w : World) (p : Nat) (x : Rd) (e : Ending) (w' : World) : Prop :=
  (match x with
  | .bad => e = .returned (.tuple #[zeroR, .int .i64 0, .int .i64 30])
  | .more => e = .returned (.tuple #[zeroR, .int .i64 0, .int .i64 31])
  | .ok r k => ∃ lv, e = .returned (.tuple #[rv r lv, .int .i64 ((p : Int) + k), .int .i64 0]) ∧ RRow w.heap.size w' lv r.l) ∧ Below w.heap.size w w'
theorem RdEnd.isBad {w w' : World} {p : Nat} {x : Rd} (hx : x = .bad) (hb : Below w.heap.size w w') : RdEnd w p x (.returned (.tuple #[zeroR, .int .i64 0, .int .i64 30])) w' := by subst hx; exact ⟨rfl, hb⟩
theorem RdEnd.isMore {w w' : World} {p : Nat} {x : Rd} (hx : x = .more) (hb : Below w.heap.size w w') : RdEnd w p x (.returned (.tuple #[zeroR, .int .i64 0, .int .i64 31])) w' := by subst hx; exact ⟨rfl, hb⟩
theorem RdEnd.isOk {w w' : World} {p k : Nat} {x : Rd} {r : R} {lv : Value} {q : Int} (hx : x = .ok r k) (hq : q = (p : Int) + k) (hr : RRow w.heap.size w' lv r.l) (hb : Below w.heap.size w w') : RdEnd w p x (.returned (.tuple #[rv r lv, .int .i64 q, .int .i64 0])) w' := by
  subst hx; subst hq; exact ⟨⟨lv, rfl, hr⟩, hb⟩
section
variable {P : Program}
theorem results_cell_tmp_tmp' {fn : Func} {p u v : Tmp} {ty : TypeId} (h : fn.results = #[.cell p ty, .tmp u, .tmp v]) (tmps : Array Value) (w : World) (g : Nat) (val : Value)
    (hp : tmps.getD p undef = .pointer (some ⟨g, 0, none⟩)) (hl : (loadVar ty ⟨g, 0, none⟩).run P w = .ok val w) :
    (results fn tmps).run P w = .ok (.tuple #[val, tmps.getD u undef, tmps.getD v undef]) w := by
  have hp' : tmps[p]?.getD undef = .pointer (some ⟨g, 0, none⟩) := by simpa using hp
  simp [results, h, hp', asAddr, hl]
end
theorem read_end {W : World} {a b c d : Value} {tmps : Array Value} {n p u v : Nat} {fn : Func} (hr : fn.results = #[.cell p 24, .tmp u, .tmp v]) (hp : tmps.getD p undef = .pointer (some ⟨n, 0, none⟩)) (hg : Blk4 W n a b c d) :
    (results fn tmps).run Tryd.prog W = .ok (.tuple #[.agg #[a, b, c, d], tmps.getD u undef, tmps.getD v undef]) W :=
  results_cell_tmp_tmp' hr tmps W n _ hp (run_loadVar_row W n _ _ _ _ _ hg Tryd.underlying24 rfl replyInfo)
theorem below4 {w W : World} {g : Nat} (h : Below w.heap.size w W) (hg : w.heap.size ≤ g) (a b c d : Value) : Below w.heap.size w ((((W.setCell ⟨g, 0, none⟩ a).setCell ⟨g, 1, none⟩ b).setCell ⟨g, 2, none⟩ c).setCell ⟨g, 3, none⟩ d) :=
  (((h.setCell (by simpa using hg) _).setCell (by simpa using hg) _).setCell (by simpa using hg) _).setCell (by simpa using hg) _
theorem getD_byte {S : ByteArray} {q i : Nat} (h : q + i < S.size) : ((S[q + i]'h).toNat : Int) = (((S.data.toList.drop q).getD i 0).toNat : Int) := by
  rw [List.getD_eq_getElem?_getD, List.getElem?_drop, List.getElem?_eq_getElem (by simpa using h)]; rfl
set_option maxRecDepth 100000 in
set_option maxHeartbeats 3200000 in
theorem bulk_any (S : ByteArray) (hS : S.size ≤ 1073741824) (p : Nat) (hp : p ≤ S.size) (h1p : 1 ≤ p) (hpre : ∀ c, S.data.toList[p - 1]? = some c → c ≠ 13) (w : World) (hE : Env w) : Calls Tryd.prog 46 #[.string S, .int .i64 p] w (RdEnd w p (Pl.rdBulk (S.data.toList.drop p))) := by
  have hn := fun W (h : Env W) => length_any S hS p hp h1p hpre W h
  have ha : Below w.heap.size w (w.alloc (.cells #[.int .i64 0, .string ⟨#[]⟩, .int .i64 0, .slice none 0 0] 24)) := (Below.refl _ _).alloc (Nat.le_refl _) _
  have A0 := Lib.hid ha
  have E0 := Lib.hid (hE.kept ha)
  have X0 := Lib.hid (Blk4.new (w := w) (a := .int .i64 0) (b := .string ⟨#[]⟩) (c := .int .i64 0) (d := .slice none 0 0) rfl)
  have hlen : (S.data.toList.drop p).length = S.size - p := by rw [List.length_drop]; simp
  unfold numV at hn
  clear hE ha hpre
  cases hl : Pl.numS (-1) 2147483647 (S.data.toList.drop p) with
  | bad =>
    rw [hl] at hn
    have HN := Lib.hid hn
    have HX : Hid (Pl.rdBulk (S.data.toList.drop p) = .bad) := (by show _ = _; unfold Pl.rdBulk; rw [hl])
    clear hn hl hlen
    go_enter Tryd.func46, Tryd.ntmps46
    go_wp2_with fail
    ((with_reducible refine (HN.out _ E0.out).mono ?_); rintro e w4 ⟨rfl, b4⟩)
    have B4 := Lib.hid (A0.out.trans (b4.mono A0.out.size))
    have X4 := Lib.hid (X0.out.later b4)
    obtain ⟨x0, x1, x2, x3⟩ := X4.out.cells
    have x4 := fun i => X4.out.free i
    clear b4
    go_wp2
    exact bodyPost_ret (read_end rfl rfl ((((X4.out.set0 _).set1 _).set2 _).set3 _)) rfl (RdEnd.isBad HX.out (below4 B4.out (Nat.le_refl _) _ _ _ _))
  | more =>
    rw [hl] at hn
    have HN := Lib.hid hn
    have HX : Hid (Pl.rdBulk (S.data.toList.drop p) = .more) := (by show _ = _; unfold Pl.rdBulk; rw [hl])
    clear hn hl hlen
    go_enter Tryd.func46, Tryd.ntmps46
    go_wp2_with fail
    ((with_reducible refine (HN.out _ E0.out).mono ?_); rintro e w4 ⟨rfl, b4⟩)
    have B4 := Lib.hid (A0.out.trans (b4.mono A0.out.size))
    have X4 := Lib.hid (X0.out.later b4)
    obtain ⟨x0, x1, x2, x3⟩ := X4.out.cells
    have x4 := fun i => X4.out.free i
    clear b4
    go_wp2
    exact bodyPost_ret (read_end rfl rfl ((((X4.out.set0 _).set1 _).set2 _).set3 _)) rfl (RdEnd.isMore HX.out (below4 B4.out (Nat.le_refl _) _ _ _ _))
  | ok n k =>
    rw [hl] at hn
    simp only at hn
    have HN := Lib.hid hn
    obtain ⟨_, -, -, n1, n2, -, -, hk⟩ := Pl.numS_ok hl
    rw [hlen] at hk
    by_cases hneg : n < 0
    · have HX : Hid (Pl.rdBulk (S.data.toList.drop p) = .ok (.mk 5 [] 0 []) k) := (by show _ = _; unfold Pl.rdBulk; rw [hl]; simp only; rw [if_pos hneg])
      clear hn hl hlen
      go_enter Tryd.func46, Tryd.ntmps46
      go_wp2_with fail
      ((with_reducible refine (HN.out _ E0.out).mono ?_); rintro e w4 ⟨rfl, b4⟩)
      have B4 := Lib.hid (A0.out.trans (b4.mono A0.out.size))
      have X4 := Lib.hid (X0.out.later b4)
      obtain ⟨x0, x1, x2, x3⟩ := X4.out.cells
      have x4 := fun i => X4.out.free i
      clear b4
      go_wp2
      exact bodyPost_ret (read_end rfl rfl ((((X4.out.set0 _).set1 _).set2 _).set3 _)) rfl (RdEnd.isOk HX.out (by rfl) (RRow.nil _ _) (below4 B4.out (Nat.le_refl _) _ _ _ _))
    obtain ⟨m, rfl⟩ : ∃ m : Nat, n = m := ⟨n.toNat, by omega⟩
    have hml : ((S.data.toList.drop p).drop k).length = S.size - (p + k) := by rw [List.length_drop, hlen]; omega
    have hdd : (S.data.toList.drop p).drop k = S.data.toList.drop (p + k) := by rw [List.drop_drop]
    have hrb : Pl.rdBulk (S.data.toList.drop p) = (if (m < S.size - (p + k) ∧ (S.data.toList.drop (p + k)).getD m 0 ≠ 13) ∨ (m + 1 < S.size - (p + k) ∧ (S.data.toList.drop (p + k)).getD (m + 1) 0 ≠ 10) then .bad else if S.size - (p + k) < m + 2 then .more else .ok (.mk 4 ((S.data.toList.drop (p + k)).take m) 0 []) (k + m + 2)) := by
      unfold Pl.rdBulk
      rw [hl]
      simp only
      rw [if_neg hneg, hml, hdd, Int.toNat_natCast]
    have hm0 : (0 : Int) ≤ (m : Int) := by omega
    have hsub : IntKind.i64.wrap ((S.size : Int) - ((p : Int) + k)) = (S.size : Int) - ((p : Int) + k) := by rw [IntWalk.i64_in]; omega
    by_cases hA : S.size - (p + k) ≤ m
    · have HX : Hid (Pl.rdBulk (S.data.toList.drop p) = .more) := (by show _ = _; rw [hrb, if_neg (by omega), if_pos (by omega)])
      have hA' : (S.size : Int) - ((p : Int) + k) ≤ m := by omega
      clear hn hl hlen hml hdd hrb
      go_enter Tryd.func46, Tryd.ntmps46
      go_wp2_with fail
      ((with_reducible refine (HN.out _ E0.out).mono ?_); rintro e w4 ⟨rfl, b4⟩)
      have B4 := Lib.hid (A0.out.trans (b4.mono A0.out.size))
      have X4 := Lib.hid (X0.out.later b4)
      obtain ⟨x0, x1, x2, x3⟩ := X4.out.cells
      have x4 := fun i => X4.out.free i
      clear b4
      go_wp2
      exact bodyPost_ret (read_end rfl rfl ((((X4.out.set0 _).set1 _).set2 _).set3 _)) rfl (RdEnd.isMore HX.out (below4 B4.out (Nat.le_refl _) _ _ _ _))
    have hq : p + k + m < S.size := by omega
    have hb1 := getD_byte (S := S) (q := p + k) (i := m) hq
    have hA' : (m : Int) < (S.size : Int) - ((p : Int) + k) := by omega
    by_cases h13 : (S.data.toList.drop (p + k)).getD m 0 = 13
    · have hc1 : ((S[p + k + m]'hq).toNat : Int) = 13 := by rw [hb1, h13]; rfl
      by_cases hB : S.size - (p + k) = m + 1
      · have HX : Hid (Pl.rdBulk (S.data.toList.drop p) = .more) := (by show _ = _; rw [hrb, if_neg (fun h => h.elim (fun h => h.2 h13) (fun h => by omega)), if_pos (by omega)])
        have hB' : (S.size : Int) - ((p : Int) + k) = m + 1 := by omega
        clear hn hl hlen hml hdd hrb hb1 h13
        go_enter Tryd.func46, Tryd.ntmps46
        go_wp2_with fail
        ((with_reducible refine (HN.out _ E0.out).mono ?_); rintro e w4 ⟨rfl, b4⟩)
        have B4 := Lib.hid (A0.out.trans (b4.mono A0.out.size))
        have X4 := Lib.hid (X0.out.later b4)
        obtain ⟨x0, x1, x2, x3⟩ := X4.out.cells
        have x4 := fun i => X4.out.free i
        clear b4
        go_wp2
        exact bodyPost_ret (read_end rfl rfl ((((X4.out.set0 _).set1 _).set2 _).set3 _)) rfl (RdEnd.isMore HX.out (below4 B4.out (Nat.le_refl _) _ _ _ _))
      have hq2 : p + k + (m + 1) < S.size := by omega
      have hb2 := getD_byte (S := S) (q := p + k) (i := m + 1) hq2
      have hB' : (m : Int) + 1 < (S.size : Int) - ((p : Int) + k) := by omega
      by_cases h10 : (S.data.toList.drop (p + k)).getD (m + 1) 0 = 10
      · have hc2 : ((S[p + k + m + 1]'hq2).toNat : Int) = 10 := by
          have := hb2
          rw [h10] at this
          exact this
        have HX : Hid (Pl.rdBulk (S.data.toList.drop p) = .ok (.mk 4 ((S.data.toList.drop (p + k)).take m) 0 []) (k + m + 2)) := (by show _ = _; rw [hrb, if_neg (fun h => h.elim (fun h => h.2 h13) (fun h => h.2 h10)), if_neg (by omega)])
        have HT : Hid (str ((S.data.toList.drop (p + k)).take m) = S.extract (p + k) (p + k + m)) := (by show _ = _; rw [← sub_take, str_of])
        clear hn hl hlen hml hdd hrb hb1 h13 hb2 h10
        go_enter Tryd.func46, Tryd.ntmps46
        go_wp2_with fail
        ((with_reducible refine (HN.out _ E0.out).mono ?_); rintro e w4 ⟨rfl, b4⟩)
        have B4 := Lib.hid (A0.out.trans (b4.mono A0.out.size))
        have X4 := Lib.hid (X0.out.later b4)
        obtain ⟨x0, x1, x2, x3⟩ := X4.out.cells
        have x4 := fun i => X4.out.free i
        clear b4
        go_wp2
        rw [← HT.out]
        exact bodyPost_ret (read_end rfl rfl ((((X4.out.set0 _).set1 _).set2 _).set3 _)) rfl (RdEnd.isOk HX.out (by simp only [Int.natCast_add]; omega) (RRow.nil _ _) (below4 B4.out (Nat.le_refl _) _ _ _ _))
      · have hc2 : (((S[p + k + m + 1]'hq2).toNat : Int) != 10) = true := by
          have := byte_ne10 h10
          rw [← hb2] at this
          exact this
        have HX : Hid (Pl.rdBulk (S.data.toList.drop p) = .bad) := (by show _ = _; rw [hrb, if_pos (.inr ⟨by omega, h10⟩)])
        clear hn hl hlen hml hdd hrb hb1 h13 hb2 h10
        go_enter Tryd.func46, Tryd.ntmps46
        go_wp2_with fail
        ((with_reducible refine (HN.out _ E0.out).mono ?_); rintro e w4 ⟨rfl, b4⟩)
        have B4 := Lib.hid (A0.out.trans (b4.mono A0.out.size))
        have X4 := Lib.hid (X0.out.later b4)
        obtain ⟨x0, x1, x2, x3⟩ := X4.out.cells
        have x4 := fun i => X4.out.free i
        clear b4
        go_wp2
        exact bodyPost_ret (read_end rfl rfl ((((X4.out.set0 _).set1 _).set2 _).set3 _)) rfl (RdEnd.isBad HX.out (below4 B4.out (Nat.le_refl _) _ _ _ _))
    · have hc1 : (((S[p + k + m]'hq).toNat : Int) != 13) = true := by
        rw [hb1, bne_iff_ne]
        intro e
        have : ((S.data.toList.drop (p + k)).getD m 0).toNat = 13 := by omega
        exact h13 (UInt8.toNat_inj.1 this)
      have HX : Hid (Pl.rdBulk (S.data.toList.drop p) = .bad) := (by show _ = _; rw [hrb, if_pos (.inl ⟨by omega, h13⟩)])
      clear hn hl hlen hml hdd hrb hb1 h13
      go_enter Tryd.func46, Tryd.ntmps46
      go_wp2_with fail
      ((with_reducible refine (HN.out _ E0.out).mono ?_); rintro e w4 ⟨rfl, b4⟩)
      have B4 := Lib.hid (A0.out.trans (b4.mono A0.out.size))
      have X4 := Lib.hid (X0.out.later b4)
      obtain ⟨x0, x1, x2, x3⟩ := X4.out.cells
      have x4 := fun i => X4.out.free i
      clear b4
      go_wp2
      exact bodyPost_ret (read_end rfl rfl ((((X4.out.set0 _).set1 _).set2 _).set3 _)) rfl (RdEnd.isBad HX.out (below4 B4.out (Nat.le_refl _) _ _ _ _))
end Go.Proofs.YtpngmbdchceikaaDoor
