/- The walks of places, Places, Range. -/
import Derived.Test.YtgdebcpnihibjaaDoorBRow
import Derived.Test.YtgdebcpnihibjaaDoorPlainBlob
namespace Go.Proofs.YtgdebcpnihibjaaDoor
open Go.ChangeShapes Go.WideShapes Go.ChangeAt Go.RowKit
set_option linter.unusedVariables false

theorem tup2_of {k : IntKind} {a b c d : Int} (h : a = c) (h2 : b = d) : Ending.returned (.tuple #[.int k a, .int k b]) = .returned (.tuple #[.int k c, .int k d]) := by rw [h, h2]
theorem places_any (n : Nat) (hn : n ≤ 140737488355328) (f t : Int) (f1 : -9223372036854775808 ≤ f) (f2 : f ≤ 9223372036854775807) (t1 : -9223372036854775808 ≤ t) (t2 : t ≤ 9223372036854775807) (w : World) :
    Calls Tryd.prog 30 #[.int .i64 n, .int .i64 f, .int .i64 t] w fun e w' => e = .returned (.tuple #[.int .i64 (Pl.pfrom n f t), .int .i64 (Pl.pto n f t)]) ∧ w = w' := by
  by_cases hf : f < 0 <;> by_cases ht : t < 0
  all_goals
    go_enter Tryd.func30, Tryd.ntmps30
    go_wp2
  all_goals
    go_ret2
    refine ⟨tup2_of ?_ ?_, rfl⟩ <;> simp only [Pl.pfrom, Pl.pto, Pl.none1, Pl.from1, Pl.to1] <;> omega
theorem refPlaces_any (n : Nat) (hn : n ≤ 140737488355328) (f t : Int) (f1 : -9223372036854775808 ≤ f) (f2 : f ≤ 9223372036854775807) (t1 : -9223372036854775808 ≤ t) (t2 : t ≤ 9223372036854775807) (w : World) :
    Calls Tryd.prog 31 #[.int .i64 n, .int .i64 f, .int .i64 t] w fun e w' => e = .returned (.tuple #[.int .i64 (Pl.pfrom n f t), .int .i64 (Pl.pto n f t - 1)]) ∧ w = w' := by
  by_cases hf : f < 0 <;> by_cases ht : t < 0
  all_goals
    go_enter Tryd.func31, Tryd.ntmps31
    go_wp2
  all_goals
    go_ret2
    refine ⟨tup2_of ?_ ?_, rfl⟩ <;> simp only [Pl.pfrom, Pl.pto, Pl.none1, Pl.from1, Pl.to1] <;> omega
/-- The bytes from place f to place t. -/
def rangeT (s : ByteArray) (f t : Int) : List UInt8 := (s.data.toList.take (Pl.pto s.size f t).toNat).drop (Pl.pfrom s.size f t).toNat
theorem extract_str (s : ByteArray) (i j : Nat) : s.extract i j = str ((s.data.toList.take j).drop i) := by
  apply ByteArray.ext
  apply Array.ext'
  simp [str, List.drop_take]
theorem blobRange_any (s : ByteArray) (hn : s.size ≤ 140737488355328) (f t : Int) (f1 : -9223372036854775808 ≤ f) (f2 : f ≤ 9223372036854775807) (t1 : -9223372036854775808 ≤ t) (t2 : t ≤ 9223372036854775807) (w : World) :
    Calls Tryd.prog 12 #[.string s, .int .i64 f, .int .i64 t] w fun e w' => e = .returned (.string (str (rangeT s f t))) ∧ w = w' := by
  obtain ⟨g1, g2, g3⟩ := Pl.places_ok s.size f t (by omega)
  go_enter Tryd.func12, Tryd.ntmps12
  go_wp2_with fail
  ((with_reducible refine (places_any s.size hn f t f1 f2 t1 t2 _).mono ?_); rintro e w1 ⟨rfl, rfl⟩)
  have E : Hid (str (rangeT s f t) = s.extract (Pl.pfrom s.size f t).toNat (Pl.pto s.size f t).toNat) := (extract_str _ _ _).symm
  go_wp2
  go_ret
  exact ⟨by rw [E.out]; rfl, rfl⟩
theorem refRange_any (s : ByteArray) (hn : s.size ≤ 140737488355328) (f t : Int) (f1 : -9223372036854775808 ≤ f) (f2 : f ≤ 9223372036854775807) (t1 : -9223372036854775808 ≤ t) (t2 : t ≤ 9223372036854775807) (w : World) :
    Calls Tryd.prog 13 #[.string s, .int .i64 f, .int .i64 t] w fun e w' => e = .returned (.string (str (rangeT s f t))) ∧ w = w' := by
  obtain ⟨g1, g2, g3⟩ := Pl.places_ok s.size f t (by omega)
  go_enter Tryd.func13, Tryd.ntmps13
  go_wp2_with fail
  ((with_reducible refine (refPlaces_any s.size hn f t f1 f2 t1 t2 _).mono ?_); rintro e w1 ⟨rfl, rfl⟩)
  have E : Hid (str (rangeT s f t) = s.extract (Pl.pfrom s.size f t).toNat (Pl.pto s.size f t).toNat) := (extract_str _ _ _).symm
  go_wp2
  go_ret
  exact ⟨by rw [E.out]; rfl, rfl⟩
end Go.Proofs.YtgdebcpnihibjaaDoor
