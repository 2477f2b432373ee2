/- line, the program's. -/
import Derived.Test.YtpngmbdchceikaaDoorIdx
import Derived.Test.YtpngmbdchceikaaDoorMayR
namespace Go.Proofs.YtpngmbdchceikaaDoor
open Go.ChangeShapes Go.WideShapes Go.ChangeAt Go.RowKit
set_option linter.unusedVariables false

theorem lineS_by (M : List UInt8) : (Lib.indexAny M [13, 10] = -1 ∧ Pl.lineS M = .cut) ∨
    ∃ k c, k < M.length ∧ M[k]? = some c ∧ Lib.indexAny M [13, 10] = (k : Int) ∧ (c = 13 ∨ c = 10) ∧ Pl.lineS M = (match Pl.lineS (c :: M.drop (k + 1)) with | .bad => .bad | .cut => .cut | .half i => .half (k + i) | .full i => .full (k + i)) := by
  induction M with
  | nil => exact .inl ⟨rfl, rfl⟩
  | cons c M ih =>
    by_cases hc : c = 13 ∨ c = 10
    · refine .inr ⟨0, c, by simp, rfl, ?_, hc, ?_⟩
      · rw [Lib.indexAny, if_pos (by rcases hc with rfl | rfl <;> decide)]; rfl
      · simp only [Nat.zero_add, List.drop_succ_cons, List.drop_zero]
        cases Pl.lineS (c :: M) <;> rfl
    · have h13 : c ≠ 13 := fun e => hc (.inl e)
      have h10 : c ≠ 10 := fun e => hc (.inr e)
      have hcc : ([13, 10] : List UInt8).contains c = false := by simp [h13, h10]
      rw [Lib.indexAny, if_neg (by rw [hcc]; simp), Pl.lineS_skip h13 h10]
      rcases ih with ⟨h1, h2⟩ | ⟨k, d, h1, h2, h3, h4, h5⟩
      · exact .inl ⟨by rw [h1]; rfl, by rw [h2]; rfl⟩
      · refine .inr ⟨k + 1, d, by simpa using h1, by simpa using h2, ?_, h4, ?_⟩
        · rw [h3]
          have : ((k : Int) == -1) = false := by rw [beq_eq_false_iff_ne]; omega
          simp only [this, Bool.false_eq_true, if_false]
          first | omega | (split <;> omega)
        · rw [h5, List.drop_succ_cons]
          cases Pl.lineS (d :: M.drop (k + 1)) <;> simp [Pl.Ln.up] <;> omega
/-- How a line of a text stands, as line tells it. -/
def lineV (S : ByteArray) (p : Nat) : Value :=
  match Pl.lineS (S.data.toList.drop p) with
  | .bad => .tuple #[.string ⟨#[]⟩, .int .i64 0, .int .i64 30]
  | .cut => .tuple #[.string (S.extract p S.size), .int .i64 S.size, .int .i64 31]
  | .half i => .tuple #[.string (S.extract p (p + i)), .int .i64 S.size, .int .i64 31]
  | .full i => .tuple #[.string (S.extract p (p + i)), .int .i64 ((p : Int) + i + 2), .int .i64 0]
theorem byte_at {S : ByteArray} {i : Nat} {c : UInt8} (h : S.data.toList[i]? = some c) : ∃ hi : i < S.size, ((S[i]'hi).toNat : Int) = c.toNat := by
  obtain ⟨h1, h2⟩ := List.getElem?_eq_some_iff.1 h
  refine ⟨by simpa using h1, ?_⟩
  rw [← h2]; rfl
theorem drop_at {M : List UInt8} {j : Nat} {x : UInt8} (h : M[j]? = some x) : M.drop j = x :: M.drop (j + 1) := by
  obtain ⟨h1, h2⟩ := List.getElem?_eq_some_iff.1 h
  rw [← h2]; exact List.drop_eq_getElem_cons h1
theorem byte_ne10 {x : UInt8} (h : x ≠ 10) : ((x.toNat : Int) != 10) = true := by
  rw [bne_iff_ne]
  intro e
  have : x.toNat = 10 := by omega
  exact h (UInt8.toNat_inj.1 this)
set_option maxRecDepth 100000 in
set_option maxHeartbeats 1600000 in
theorem line_any (S : ByteArray) (hS : S.size ≤ 1073741824) (p : Nat) (hp : p ≤ S.size) (w : World) : Calls Tryd.prog 44 #[.string S, .int .i64 p] w fun e w' => e = .returned (lineV S p) ∧ Below w.heap.size w w' := by
  have hx : (S.extract p S.size).data.toList = S.data.toList.drop p := by rw [Lib.extract_data, List.take_of_length_le]; simp
  have hlen : (S.data.toList.drop p).length = S.size - p := by rw [List.length_drop]; simp
  have hsz : (S.extract p S.size).size = S.size - p := by rw [ByteArray.size_extract]; omega
  have hi := fun W => idxAny_any (S.extract p S.size) (by rw [hsz]; omega) W
  unfold AnyEnd at hi
  rw [hx] at hi
  have HV := Lib.hid (rfl : lineV S p = lineV S p)
  rcases lineS_by (S.data.toList.drop p) with ⟨h1, h2⟩ | ⟨k, c, h1, h2, h3, h4, h5⟩
  · rw [h1] at hi
    have HI := Lib.hid hi
    have HL : Hid (lineV S p = .tuple #[.string (S.extract p S.size), .int .i64 S.size, .int .i64 31]) := (by show _ = _; unfold lineV; rw [h2])
    clear hi hx hlen hsz HV h1 h2
    go_enter Tryd.func44, Tryd.ntmps44
    go_wp2_with fail
    ((with_reducible refine (HI.out _).mono ?_); rintro e w4 ⟨rfl, b4⟩)
    go_wp2
    go_ret3
    exact ⟨by rw [HL.out]; rfl, b4⟩
  · rw [h3] at hi
    have HI := Lib.hid hi
    rw [hlen] at h1
    have hget : ∀ j, (S.data.toList.drop p)[j]? = S.data.toList[p + j]? := fun j => by rw [List.getElem?_drop]
    rw [hget] at h2
    obtain ⟨hk, hb⟩ := byte_at h2
    rcases h4 with rfl | rfl
    · by_cases hend : p + k + 1 = S.size
      · have hd : (S.data.toList.drop p).drop (k + 1) = [] := by rw [List.drop_eq_nil_iff]; omega
        rw [hd] at h5
        have HL : Hid (lineV S p = .tuple #[.string (S.extract p (p + k)), .int .i64 S.size, .int .i64 31]) := (by show _ = _; unfold lineV; rw [h5]; rfl)
        have hb' : ((S[p + k]'hk).toNat : Int) = 13 := hb
        have hend' : (p : Int) + k + 1 = S.size := by omega
        clear hi hx hlen hsz HV h2 h3 h5 hget hd hb
        go_enter Tryd.func44, Tryd.ntmps44
        go_wp2_with fail
        ((with_reducible refine (HI.out _).mono ?_); rintro e w4 ⟨rfl, b4⟩)
        go_wp2
        go_ret3
        exact ⟨by rw [HL.out]; rfl, b4⟩
      · obtain ⟨x, hx2⟩ : ∃ x, S.data.toList[p + k + 1]? = some x := ⟨_, List.getElem?_eq_getElem (by simp; omega)⟩
        obtain ⟨hk2, hb2⟩ := byte_at hx2
        have hd : (S.data.toList.drop p).drop (k + 1) = x :: (S.data.toList.drop p).drop (k + 2) := drop_at (by rw [List.getElem?_drop, ← Nat.add_assoc]; exact hx2)
        rw [hd] at h5
        have hb' : ((S[p + k]'hk).toNat : Int) = 13 := hb
        have hend' : ((p : Int) + k + 1 == S.size) = false := by rw [beq_eq_false_iff_ne]; omega
        have hm : IntKind.i64.wrap ((p : Int) + k + 2) = (p : Int) + k + 2 := by rw [IntWalk.i64_in]; omega
        by_cases hx10 : x = 10
        · subst hx10
          have HL : Hid (lineV S p = .tuple #[.string (S.extract p (p + k)), .int .i64 ((p : Int) + k + 2), .int .i64 0]) := (by show _ = _; unfold lineV; rw [h5]; rfl)
          have hb2' : ((S[p + k + 1]'hk2).toNat : Int) = 10 := hb2
          clear hi hx hlen hsz HV h2 h3 h5 hget hd hb hx2 hb2
          go_enter Tryd.func44, Tryd.ntmps44
          go_wp2_with fail
          ((with_reducible refine (HI.out _).mono ?_); rintro e w4 ⟨rfl, b4⟩)
          go_wp2
          go_ret3
          exact ⟨by rw [HL.out]; rfl, b4⟩
        · have HL : Hid (lineV S p = .tuple #[.string ⟨#[]⟩, .int .i64 0, .int .i64 30]) := (by show _ = _; unfold lineV; rw [h5]; simp [Pl.lineS, hx10])
          have hb2' : (((S[p + k + 1]'hk2).toNat : Int) != 10) = true := by rw [hb2]; exact byte_ne10 hx10
          clear hi hx hlen hsz HV h2 h3 h5 hget hd hb hx2 hb2
          go_enter Tryd.func44, Tryd.ntmps44
          go_wp2_with fail
          ((with_reducible refine (HI.out _).mono ?_); rintro e w4 ⟨rfl, b4⟩)
          go_wp2
          go_ret3
          exact ⟨by rw [HL.out]; rfl, b4⟩
    · have HL : Hid (lineV S p = .tuple #[.string ⟨#[]⟩, .int .i64 0, .int .i64 30]) := (by show _ = _; unfold lineV; rw [h5, Pl.lineS_cons]; rfl)
      have hb' : ((S[p + k]'hk).toNat : Int) = 10 := hb
      clear hi hx hlen hsz HV h2 h3 h5 hget hb
      go_enter Tryd.func44, Tryd.ntmps44
      go_wp2_with fail
      ((with_reducible refine (HI.out _).mono ?_); rintro e w4 ⟨rfl, b4⟩)
      go_wp2
      go_ret3
      exact ⟨by rw [HL.out]; rfl, b4⟩
end Go.Proofs.YtpngmbdchceikaaDoor
