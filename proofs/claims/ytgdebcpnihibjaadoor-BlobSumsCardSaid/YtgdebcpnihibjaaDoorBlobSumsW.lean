/- The walk of BlobSums. -/
import Derived.Test.YtgdebcpnihibjaaDoorBlobSetW
namespace Go.Proofs.YtgdebcpnihibjaaDoor
open Go.ChangeShapes Go.WideShapes Go.ChangeAt Go.RowKit
set_option linter.unusedVariables false

theorem op_one (op : Int) (x : ByteArray) (hx : x.size ≤ 140737488351232) (X : ByteArray) (hX : opS op [x] = X) (hE : opE op [x] = 0) (w : World) :
    Calls Tryd.prog 25 #[.int .i64 op, .slice (some ⟨w.heap.size, 0, none⟩) 1 1] (w.alloc (.cells #[.string x] 9)) fun e w' => e = .returned (.tuple #[.string X, .int .i64 0]) ∧ Below w.heap.size w w' := by
  refine (op_any op _ [x] (by simpa using hx) (by simp) _ ⟨_, _, rfl, .inr ⟨w.heap.size, 0, rfl, by simp, by simp, by decide, fun j y hy => ?_⟩⟩).mono fun e w' ⟨h1, h2⟩ => ⟨?_, ?_⟩
  · have hj : j = 0 := by have := (List.getElem?_eq_some_iff.1 hy).1; simp at this; omega
    subst hj
    obtain rfl : x = y := by simpa using hy
    exact World.cell?_alloc_mark _ _ _ _ _
  · rw [h1, hX, hE]
  · exact ((Below.refl _ _).alloc (Nat.le_refl _) _).trans (h2.mono (by simp))
theorem op_two (op : Int) (x z : ByteArray) (hx : x.size ≤ 140737488351232) (hz : z.size ≤ 140737488351232) (X : ByteArray) (hX : opS op [x, z] = X) (hE : opE op [x, z] = 0) (w : World) :
    Calls Tryd.prog 25 #[.int .i64 op, .slice (some ⟨w.heap.size, 0, none⟩) 2 2] (w.alloc (.cells #[.string x, .string z] 9)) fun e w' => e = .returned (.tuple #[.string X, .int .i64 0]) ∧ Below w.heap.size w w' := by
  refine (op_any op _ [x, z] (by simpa using ⟨hx, hz⟩) (by simp) _ ⟨_, _, rfl, .inr ⟨w.heap.size, 0, rfl, by simp, by simp, by decide, fun j y hy => ?_⟩⟩).mono fun e w' ⟨h1, h2⟩ => ⟨?_, ?_⟩
  · have hj : j = 0 ∨ j = 1 := by have := (List.getElem?_eq_some_iff.1 hy).1; simp at this; omega
    rcases hj with rfl | rfl
    · obtain rfl : x = y := by simpa using hy
      exact World.cell?_alloc_mark _ _ _ _ _
    · obtain rfl : z = y := by simpa using hy
      exact World.cell?_alloc_mark _ _ _ _ _
  · rw [h1, hX, hE]
  · exact ((Below.refl _ _).alloc (Nat.le_refl _) _).trans (h2.mono (by simp))
theorem range_all (X : ByteArray) : rangeT X 0 (-1) = X.data.toList := by
  have h : Pl.pfrom X.size 0 (-1) = 0 ∧ Pl.pto X.size 0 (-1) = (X.size : Int) := by
    simp only [Pl.pfrom, Pl.pto, Pl.none1, Pl.from1, Pl.to1]
    by_cases h0 : X.size = 0
    · rw [h0]; decide
    · omega
  unfold rangeT
  rw [h.1, h.2, Int.toNat_natCast, take_all]
  rfl
theorem count_all (X : ByteArray) (hX : X.size ≤ 140737488351232) (p : Nat) (hp : Pl.pop X.data.toList = p) (w : World) :
    Calls Tryd.prog 23 #[.string X, .int .i64 0, .int .i64 (-1)] w fun e w' => e = .returned (.int .i64 (p : Int)) ∧ Below w.heap.size w w' :=
  (count_any X hX 0 (-1) (by omega) (by omega) (by omega) (by omega) w).mono fun e w' ⟨h1, h2⟩ => ⟨by rw [h1]; unfold countV; rw [range_all, hp], h2⟩
/-- What the calls give. -/
def SumsFacts (s t a c x y : ByteArray) (cx cy cs ct ca : Nat) : Prop :=
  (∀ W, Calls Tryd.prog 25 #[.int .i64 4, .slice (some ⟨W.heap.size, 0, none⟩) 1 1] (W.alloc (.cells #[.string s] 9)) fun e w' => e = .returned (.tuple #[.string a, .int .i64 0]) ∧ Below W.heap.size W w') ∧
  (∀ W, Calls Tryd.prog 25 #[.int .i64 4, .slice (some ⟨W.heap.size, 0, none⟩) 1 1] (W.alloc (.cells #[.string a] 9)) fun e w' => e = .returned (.tuple #[.string s, .int .i64 0]) ∧ Below W.heap.size W w') ∧
  (∀ W, Calls Tryd.prog 25 #[.int .i64 3, .slice (some ⟨W.heap.size, 0, none⟩) 2 2] (W.alloc (.cells #[.string s, .string s] 9)) fun e w' => e = .returned (.tuple #[.string c, .int .i64 0]) ∧ Below W.heap.size W w') ∧
  (∀ W, Calls Tryd.prog 25 #[.int .i64 1, .slice (some ⟨W.heap.size, 0, none⟩) 2 2] (W.alloc (.cells #[.string s, .string t] 9)) fun e w' => e = .returned (.tuple #[.string x, .int .i64 0]) ∧ Below W.heap.size W w') ∧
  (∀ W, Calls Tryd.prog 25 #[.int .i64 2, .slice (some ⟨W.heap.size, 0, none⟩) 2 2] (W.alloc (.cells #[.string s, .string t] 9)) fun e w' => e = .returned (.tuple #[.string y, .int .i64 0]) ∧ Below W.heap.size W w') ∧
  (∀ W, Calls Tryd.prog 29 #[.string c, .string ⟨#[]⟩] W fun e w' => e = .returned (.bool true) ∧ W = w') ∧ c.size = s.size ∧
  (∀ W, Calls Tryd.prog 23 #[.string x, .int .i64 0, .int .i64 (-1)] W fun e w' => e = .returned (.int .i64 (cx : Int)) ∧ Below W.heap.size W w') ∧
  (∀ W, Calls Tryd.prog 23 #[.string y, .int .i64 0, .int .i64 (-1)] W fun e w' => e = .returned (.int .i64 (cy : Int)) ∧ Below W.heap.size W w') ∧
  (∀ W, Calls Tryd.prog 23 #[.string s, .int .i64 0, .int .i64 (-1)] W fun e w' => e = .returned (.int .i64 (cs : Int)) ∧ Below W.heap.size W w') ∧
  (∀ W, Calls Tryd.prog 23 #[.string t, .int .i64 0, .int .i64 (-1)] W fun e w' => e = .returned (.int .i64 (ct : Int)) ∧ Below W.heap.size W w') ∧
  (∀ W, Calls Tryd.prog 23 #[.string a, .int .i64 0, .int .i64 (-1)] W fun e w' => e = .returned (.int .i64 (ca : Int)) ∧ Below W.heap.size W w') ∧
  cx + cy = cs + ct ∧ cs + ca = 8 * s.size ∧ cs ≤ 1125899906809856 ∧ ct ≤ 1125899906809856
theorem opL_size (op : Int) (ls : List (List UInt8)) : (str (Pl.opL op ls)).size = Pl.maxL ls := by rw [str_size]; exact Pl.row_length _ _
theorem sums_facts (s t : ByteArray) (hs : s.size ≤ 140737488351232) (ht : t.size ≤ 140737488351232) : ∃ a c x y cx cy cs ct ca, SumsFacts s t a c x y cx cy cs ct ca := by
  have ha : (str (Pl.opL 4 [s.data.toList])).size = s.size := by rw [opL_size]; simp [Pl.maxL]
  have hx : ∀ op, (str (Pl.opL op [s.data.toList, t.data.toList])).size ≤ 140737488351232 := fun op => by
    rw [opL_size]
    refine Pl.maxL_le fun l hl => ?_
    simp at hl
    rcases hl with rfl | rfl
    · rw [len_toList]; exact hs
    · rw [len_toList]; exact ht
  refine ⟨str (Pl.opL 4 [s.data.toList]), str (Pl.opL 3 [s.data.toList, s.data.toList]), str (Pl.opL 1 [s.data.toList, t.data.toList]), str (Pl.opL 2 [s.data.toList, t.data.toList]), _, _, _, _, _,
    fun W => op_one 4 s hs _ rfl rfl W, fun W => op_one 4 _ (by rw [ha]; exact hs) s ?_ rfl W, fun W => op_two 3 s s hs hs _ rfl rfl W, fun W => op_two 1 s t hs ht _ rfl rfl W, fun W => op_two 2 s t hs ht _ rfl rfl W,
    fun W => zeros_yes _ _ ?_ ?_ W, ?_, fun W => count_all _ (hx 1) _ rfl W, fun W => count_all _ (hx 2) _ rfl W, fun W => count_all s hs _ rfl W, fun W => count_all t ht _ rfl W, fun W => count_all _ (by rw [ha]; exact hs) _ rfl W, ?_, ?_, ?_, ?_⟩
  · show str (Pl.opL 4 [Pl.opL 4 [s.data.toList]]) = s
    rw [Pl.not_not, str_of]
  · rw [opL_size]; simp [Pl.maxL]; omega
  · rw [Pl.xor_self]; exact Pl.zeros_row _
  · rw [opL_size]; simp [Pl.maxL]
  · exact Pl.pop_and_or _ _
  · have := Pl.pop_not s.data.toList
    rw [len_toList] at this
    exact this
  · have := Pl.pop_le s.data.toList
    rw [len_toList] at this
    omega
  · have := Pl.pop_le t.data.toList
    rw [len_toList] at this
    omega
set_option maxRecDepth 100000 in
set_option maxHeartbeats 1600000 in
theorem blobSums_walk (s : ByteArray) (hs : s.size ≤ 140737488351232) (t : ByteArray) (ht : t.size ≤ 140737488351232) (w : World) (h : Pows w) (hv : Sents w) :
    Calls Tryd.prog 11 #[.string s, .string t] w fun e w' => e = .returned (.bool true) ∧ Below w.heap.size w w' := by
  obtain ⟨a, c, x, y, cx, cy, cs, ct, ca, c1, c2, c3, c4, c5, c6, hc, d1, d2, d3, d4, d5, e1, e2, e3, e4⟩ := sums_facts s t hs ht
  have H := Lib.hid h
  have HV := Lib.hid hv
  have C1 := Lib.hid c1
  have C2 := Lib.hid c2
  have C3 := Lib.hid c3
  have C4 := Lib.hid c4
  have C5 := Lib.hid c5
  have C6 := Lib.hid c6
  have D1 := Lib.hid d1
  have D2 := Lib.hid d2
  have D3 := Lib.hid d3
  have D4 := Lib.hid d4
  have D5 := Lib.hid d5
  have hc1 : ((c.size : Int) != (s.size : Int)) = false := by rw [hc]; simp
  have he1 : (((cx : Int) + (cy : Int)) == ((cs : Int) + (ct : Int))) = true := by rw [beq_iff_eq]; omega
  have he2 : (((cs : Int) + (ca : Int)) == 8 * (s.size : Int)) = true := by rw [beq_iff_eq]; omega
  have b1 : cx ≤ 2251799813619712 := by omega
  have b2 : cy ≤ 2251799813619712 := by omega
  have b3 : ca ≤ 2251799813619712 := by omega
  clear h hv c1 c2 c3 c4 c5 c6 d1 d2 d3 d4 d5 hc e1 e2
  go_enter Tryd.func11, Tryd.ntmps11
  go_wp2_with fail
  ((with_reducible refine (C1.out _).mono ?_); rintro e w1 ⟨rfl, k1⟩)
  go_wp2_with fail
  ((with_reducible refine (C2.out _).mono ?_); rintro e w2 ⟨rfl, k2⟩)
  have K2 := k1.trans (k2.mono k1.size)
  clear k1 k2
  go_wp2_with fail
  ((with_reducible refine (C3.out _).mono ?_); rintro e w3 ⟨rfl, k3⟩)
  have K3 := K2.trans (k3.mono K2.size)
  clear K2 k3
  go_wp2_with fail
  ((with_reducible refine (C4.out _).mono ?_); rintro e w4 ⟨rfl, k4⟩)
  have K4 := K3.trans (k4.mono K3.size)
  clear K3 k4
  go_wp2_with fail
  ((with_reducible refine (C5.out _).mono ?_); rintro e w5 ⟨rfl, k5⟩)
  have K5 := K4.trans (k5.mono K4.size)
  clear K4 k5
  go_wp2_with fail
  ((with_reducible refine (C6.out _).mono ?_); rintro e w6 ⟨rfl, rfl⟩)
  go_wp2_with fail
  ((with_reducible refine (D1.out _).mono ?_); rintro e w6 ⟨rfl, k6⟩)
  have K6 := K5.trans (k6.mono K5.size)
  clear K5 k6
  go_wp2_with fail
  ((with_reducible refine (D2.out _).mono ?_); rintro e w7 ⟨rfl, k7⟩)
  have K7 := K6.trans (k7.mono K6.size)
  clear K6 k7
  go_wp2_with fail
  ((with_reducible refine (D3.out _).mono ?_); rintro e w8 ⟨rfl, k8⟩)
  have K8 := K7.trans (k8.mono K7.size)
  clear K7 k8
  go_wp2_with fail
  ((with_reducible refine (D4.out _).mono ?_); rintro e w9 ⟨rfl, k9⟩)
  have K9 := K8.trans (k9.mono K8.size)
  clear K8 k9
  go_wp2_with fail
  ((with_reducible refine (D3.out _).mono ?_); rintro e w10 ⟨rfl, k10⟩)
  have K10 := K9.trans (k10.mono K9.size)
  clear K9 k10
  go_wp2_with fail
  ((with_reducible refine (D5.out _).mono ?_); rintro e w11 ⟨rfl, k11⟩)
  have K11 := K10.trans (k11.mono K10.size)
  clear K10 k11
  go_wp2_with fail
  ((with_reducible refine (sure_any _ (H.out.kept (B := 0) K11) (HV.out.kept K11)).mono ?_); rintro e w12 ⟨rfl, k12⟩)
  go_wp2
  go_ret
  exact ⟨rfl, K11.trans (k12.mono K11.size)⟩
end Go.Proofs.YtgdebcpnihibjaaDoor
