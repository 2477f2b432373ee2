/- What the listed variables give: the table of powers; the door's own heap meets each list. -/
import Derived.Test.YtpngmbdchceikaaDoorCards
import Derived.Test.YtpngmbdchceikaaDoorTie
import Derived.Test.YtpngmbdchceikaaDoorShelf
import Derived.Test.YtpngmbdchceikaaDoorBase
import Derived.LaidMore
import Derived.Deep.DeepHandedRow
import Derived.Deep.DeepWitnessRowRef
import Derived.Lib.LaidTab
import Derived.Lib.AppendIntMem
import Derived.Stop.Joined
import Derived.Stop.LaidErr
namespace Go.Proofs.YtpngmbdchceikaaDoor
open Go.ChangeShapes Go.WideShapes Go.ChangeAt Go.RowKit
set_option linter.unusedVariables false

theorem gPow : Tryd.prog.globalNamed "internal/strconv.uint64pow10" = some 1 := by kernel_rfl
theorem tPow : (Tryd.prog.globals[1]?).map (·.type) = some 128 := by kernel_rfl
theorem cPow : Tryd.prog.cellsOf 128 = 20 := by kernel_rfl
theorem cU64 : Tryd.prog.cellsOf 74 = 1 := by kernel_rfl
abbrev Pows (W : World) : Prop := Lib.TabIs Tryd.prog W "internal/strconv.uint64pow10" .u64 Lib.pow10Tab
theorem pows_of {W : World} {a b : String × DataW Unit} {r : List (String × DataW Unit)} (h : laidMet Tryd.prog (a :: b :: ("internal/strconv.uint64pow10", Rows.laid_internal_strconv_uint64pow10) :: r) W) : Pows W :=
  Lib.tabIs_of_head (rest := r) gPow tPow Tryd.underlying128 Tryd.underlying74 cU64 cPow h.tail.tail
theorem Pows.kept {W W' : World} {B : Nat} (h : Pows W) (hb : Below W.heap.size W W') : Pows W' := Lib.tabBelow_of_tabIs h W' hb

theorem itoa_any (n : Int) (h1 : -9223372036854775808 ≤ n) (h2 : n ≤ 9223372036854775807) (w : World) (h : Pows w) :
    Calls Tryd.prog 51 #[.int .i64 n] w fun e w' => e = .returned (.string (str (Lib.itoa n))) ∧ Below w.heap.size w w' :=
  (Tryd.strconv_Itoa n h1 h2 w h).mono fun e w' ⟨he, k, os, hw⟩ => ⟨he, hw ▸ Lib.below_grow _ _ (Nat.le_refl _) _ _⟩
theorem formatInt_any (n : Int) (h1 : -9223372036854775808 ≤ n) (h2 : n ≤ 9223372036854775807) (w : World) (h : Pows w) :
    Calls Tryd.prog 69 #[.int .i64 n, .int .i64 10] w fun e w' => e = .returned (.string (str (Lib.itoa n))) ∧ Below w.heap.size w w' :=
  (Tryd.strconv_FormatInt_10 n h1 h2 w h).mono fun e w' ⟨he, k, os, hw⟩ => ⟨he, hw ▸ Lib.below_grow _ _ (Nat.le_refl _) _ _⟩

/-- The two sentinels hold an error each. -/
def Sents (W : World) : Prop := ∃ t1 p1 t2 p2, W.var? Tryd.prog "strconv.ErrSyntax" = some #[.iface t1 p1] ∧ W.var? Tryd.prog "strconv.ErrRange" = some #[.iface t2 p2]
theorem var_kept {P : Program} {w w' : World} {name : String} {cs : Array Value} {B : Nat} (h : w.var? P name = some cs) (hb : Below w.heap.size w w') : w'.var? P name = some cs := by
  unfold World.var? at *
  cases hg : P.globalNamed name with
  | none => simp [hg] at h
  | some g =>
    simp only [hg, Option.bind_some] at h ⊢
    have hlt : g < w.heap.size := by
      rcases Nat.lt_or_ge g w.heap.size with h' | h'
      · exact h'
      · rw [Array.getElem?_eq_none h'] at h; simp at h
    rw [hb.block g hlt]
    exact h
theorem Sents.kept {w w' : World} (h : Sents w) (hb : Below w.heap.size w w') : Sents w' := by
  obtain ⟨t1, p1, t2, p2, h1, h2⟩ := h
  exact ⟨t1, p1, t2, p2, var_kept (B := 0) h1 hb, var_kept (B := 0) h2 hb⟩
theorem gES : Tryd.prog.globalNamed "strconv.ErrSyntax" = some 2 := by kernel_rfl
theorem tES : (Tryd.prog.globals[2]?).map (·.type) = some 76 := by kernel_rfl
theorem gER : Tryd.prog.globalNamed "strconv.ErrRange" = some 3 := by kernel_rfl
theorem tER : (Tryd.prog.globals[3]?).map (·.type) = some 76 := by kernel_rfl
theorem cES : Tryd.prog.cellsOf 139 = 1 := by kernel_rfl
theorem cStr : Tryd.prog.cellsOf 9 = 1 := by kernel_rfl
theorem star : "*errors.errorString" = "*" ++ "errors.errorString" := by decide
theorem rowES (u : TypeId) (h : Tryd.prog.typeName? 3 u = some "*errors.errorString") : u = 137 :=
  typeName_ptr_named (nm := "errors.errorString") (by rw [← star]; kernel_rfl) (by kernel_rfl) (by decide) u (by rw [← star]; exact h)
theorem sents_of {W : World} {a b c : String × DataW Unit} {r : List (String × DataW Unit)} (h : laidMet Tryd.prog (a :: b :: c :: ("strconv.ErrRange", Rows.laid_strconv_ErrRange) :: ("strconv.ErrSyntax", Rows.laid_strconv_ErrSyntax) :: r) W) : Sents W := by
  obtain ⟨a0, s0, hv0, -, -, -⟩ := laid_sentinel h.tail.tail.tail gER tER Tryd.underlying76 rowES Tryd.underlying137 Tryd.underlying139 rfl rfl Tryd.underlying9 cES cStr
  obtain ⟨a1, s1, hv1, -, -, -⟩ := laid_sentinel h.tail.tail.tail.tail gES tES Tryd.underlying76 rowES Tryd.underlying137 Tryd.underlying139 rfl rfl Tryd.underlying9 cES cStr
  exact ⟨_, _, _, _, hv1, hv0⟩
end Go.Proofs.YtpngmbdchceikaaDoor
