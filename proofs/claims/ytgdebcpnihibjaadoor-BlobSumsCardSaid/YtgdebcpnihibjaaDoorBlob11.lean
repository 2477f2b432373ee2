/- blob.Op and the reference's at every list; what every call of the laws begins with. -/
import Derived.Test.YtgdebcpnihibjaaDoorBlob10
namespace Go.Proofs.YtgdebcpnihibjaaDoor
open Go.ChangeShapes Go.WideShapes Go.ChangeAt Go.RowKit
set_option linter.unusedVariables false

/-- What Op gives. -/
def opOk (op : Int) (n : Nat) : Bool := decide ((1 ≤ op ∧ op ≤ 4) ∧ n ≠ 0 ∧ ¬ (op = 4 ∧ 1 < n))
def opS (op : Int) (bs : List ByteArray) : ByteArray := if opOk op bs.length then str (Pl.opL op (bs.map fun b => b.data.toList)) else str []
def opE (op : Int) (bs : List ByteArray) : Int := if opOk op bs.length then 0 else 82
def OpEnd (op : Int) (bs : List ByteArray) (w : World) (e : Ending) (w' : World) : Prop := e = .returned (.tuple #[.string (opS op bs), .int .i64 (opE op bs)]) ∧ Below w.heap.size w w'
/-- A slice of texts whose length is within its room. -/
def ORow (w : World) (v : Value) (bs : List ByteArray) : Prop :=
  ∃ ao cp, v = .slice ao bs.length cp ∧ (bs = [] ∨ ∃ g off, ao = some ⟨g, off, none⟩ ∧ g < w.heap.size ∧ bs.length ≤ cp ∧ cp ≤ 9223372036854775807 ∧ ∀ j x, bs[j]? = some x → w.cell? ⟨g, off + j, none⟩ = some (.string x))
theorem lsN_of (bs : List ByteArray) : lsN (fun j => bs.getD j (str [])) bs.length = bs.map fun b => b.data.toList := by
  apply List.ext_getElem (by simp [lsN])
  intro i h1 h2
  have hi : i < bs.length := by simpa using h2
  simp [lsN, List.getD_eq_getElem?_getD, List.getElem?_eq_getElem hi]
theorem opRow_eq (op : Int) (bs : List ByteArray) (h4 : op ≠ 4) : Pl.row (mxN (fun j => bs.getD j (str [])) bs.length) (opK op (fun j => bs.getD j (str [])) bs.length) = Pl.opL op (bs.map fun b => b.data.toList) := by
  unfold Pl.opL mxN opK
  rw [lsN_of]
  exact Pl.row_congr fun i _ => (if_neg h4).symm
theorem opRow_4 (bs : List ByteArray) : Pl.row (mxN (fun j => bs.getD j (str [])) bs.length) (notK (fun j => bs.getD j (str [])) bs.length) = Pl.opL 4 (bs.map fun b => b.data.toList) := by
  unfold Pl.opL mxN
  refine (Pl.row_congr fun i _ => ?_).trans (congrArg (fun l => Pl.row (Pl.maxL l) (Pl.opG 4 l)) (lsN_of bs))
  exact (if_pos rfl).symm
theorem op_no {op : Int} {bs : List ByteArray} (h : opOk op bs.length = false) (w : World) {P : Program} {f : FuncId} {aa : Array Value} (hc : Calls P f aa w fun e w' => e = .returned (.tuple #[.string (str []), .int .i64 82]) ∧ w = w') : Calls P f aa w (OpEnd op bs w) := by
  have e1 : opS op bs = str [] := by unfold opS; rw [h]; rfl
  have e2 : opE op bs = 82 := by unfold opE; rw [h]; rfl
  unfold OpEnd
  rw [e1, e2]
  exact hc.mono fun e w' ⟨h1, h2⟩ => ⟨h1, h2 ▸ Below.refl _ _⟩
theorem op_yes {op : Int} {bs : List ByteArray} {l : List UInt8} (h : opOk op bs.length = true) (hl : l = Pl.opL op (bs.map fun b => b.data.toList)) (w : World) {P : Program} {f : FuncId} {aa : Array Value} (hc : Calls P f aa w fun e w' => e = .returned (.tuple #[.string (str l), .int .i64 0]) ∧ Below w.heap.size w w') : Calls P f aa w (OpEnd op bs w) := by
  have e1 : opS op bs = str l := by unfold opS; rw [h, hl]; rfl
  have e2 : opE op bs = 0 := by unfold opE; rw [h]; rfl
  unfold OpEnd
  rw [e1, e2]
  exact hc
theorem op_any (op : Int) (v : Value) (bs : List ByteArray) (hz : ∀ b ∈ bs, b.size ≤ 140737488351232) (hl : bs.length ≤ 9223372036854775807) (w : World) (h : ORow w v bs) :
    Calls Tryd.prog 25 #[.int .i64 op, v] w (OpEnd op bs w) := by
  obtain ⟨ao, cp, rfl, h⟩ := h
  by_cases h1 : op < 1
  · exact op_no (decide_eq_false (by omega)) w (op_bad1 op ao _ cp h1 w)
  by_cases h2 : 4 < op
  · exact op_no (decide_eq_false (by omega)) w (op_bad2 op ao _ cp h2 w)
  by_cases h3 : bs.length = 0
  · refine op_no (decide_eq_false (by omega)) w ?_
    rw [h3]
    exact op_bad3 op ao cp (by omega) (by omega) w
  obtain ⟨g, off, rfl, hg, hcp, hcp2, hc⟩ := h.resolve_left (fun e => h3 (by rw [e]; rfl))
  have hcell : ∀ j, j < bs.length → w.cell? ⟨g, off + j, none⟩ = some (.string ((fun j => bs.getD j (str [])) j)) := fun j hj => by
    refine hc j _ ?_
    show _ = some (bs.getD j (str []))
    rw [List.getD_eq_getElem?_getD, List.getElem?_eq_getElem hj]; rfl
  have hS : ∀ j, j < bs.length → ((fun j => bs.getD j (str [])) j).size ≤ 140737488351232 := fun j hj => by
    refine hz _ ?_
    show bs.getD j (str []) ∈ bs
    rw [List.getD_eq_getElem?_getD, List.getElem?_eq_getElem hj]; exact List.getElem_mem hj
  by_cases h4 : op = 4
  · subst h4
    by_cases h5 : 1 < bs.length
    · exact op_no (decide_eq_false (by omega)) w (op_bad4 _ _ cp h5 hl w)
    · refine op_yes (decide_eq_true (by omega)) (opRow_4 bs) w ?_
      by_cases h6 : cp = 1
      · exact op4_onec g off cp _ _ (by omega) (by omega) h6 hcp2 hS w hg hcell
      · exact op4_oned g off cp _ _ (by omega) (by omega) (by omega) hcp2 hS w hg hcell
  · refine op_yes (decide_eq_true (by omega)) (opRow_eq op bs h4) w ?_
    have h7 : op = 1 ∨ op = 2 ∨ op = 3 := by omega
    by_cases h5 : 2 ≤ bs.length
    · rcases h7 with rfl | rfl | rfl
      · exact op1_ok g off cp _ _ h5 hcp hcp2 hS w hg hcell
      · exact op2_ok g off cp _ _ h5 hcp hcp2 hS w hg hcell
      · exact op3_ok g off cp _ _ h5 hcp hcp2 hS w hg hcell
    · by_cases h6 : cp = 1
      · rcases h7 with rfl | rfl | rfl
        · exact op1_onec g off cp _ _ (by omega) (by omega) h6 hcp2 hS w hg hcell
        · exact op2_onec g off cp _ _ (by omega) (by omega) h6 hcp2 hS w hg hcell
        · exact op3_onec g off cp _ _ (by omega) (by omega) h6 hcp2 hS w hg hcell
      · rcases h7 with rfl | rfl | rfl
        · exact op1_oned g off cp _ _ (by omega) (by omega) (by omega) hcp2 hS w hg hcell
        · exact op2_oned g off cp _ _ (by omega) (by omega) (by omega) hcp2 hS w hg hcell
        · exact op3_oned g off cp _ _ (by omega) (by omega) (by omega) hcp2 hS w hg hcell
theorem refOp_any (op : Int) (v : Value) (bs : List ByteArray) (hz : ∀ b ∈ bs, b.size ≤ 140737488351232) (hl : bs.length ≤ 9223372036854775807) (w : World) (h : SRow w v bs) :
    Calls Tryd.prog 26 #[.int .i64 op, v] w (OpEnd op bs w) := by
  obtain ⟨ao, cp, rfl, h⟩ := h
  by_cases h1 : op < 1
  · exact op_no (decide_eq_false (by omega)) w (refOp_bad1 op ao _ cp h1 w)
  by_cases h2 : 4 < op
  · exact op_no (decide_eq_false (by omega)) w (refOp_bad2 op ao _ cp h2 w)
  by_cases h3 : bs.length = 0
  · refine op_no (decide_eq_false (by omega)) w ?_
    rw [h3]
    exact refOp_bad3 op ao cp (by omega) (by omega) w
  obtain ⟨g, off, rfl, hg, hc⟩ := h.resolve_left (fun e => h3 (by rw [e]; rfl))
  have hcell : ∀ j, j < bs.length → w.cell? ⟨g, off + j, none⟩ = some (.string ((fun j => bs.getD j (str [])) j)) := fun j hj => by
    refine hc j _ ?_
    show _ = some (bs.getD j (str []))
    rw [List.getD_eq_getElem?_getD, List.getElem?_eq_getElem hj]; rfl
  have hS : ∀ j, j < bs.length → ((fun j => bs.getD j (str [])) j).size ≤ 140737488351232 := fun j hj => by
    refine hz _ ?_
    show bs.getD j (str []) ∈ bs
    rw [List.getD_eq_getElem?_getD, List.getElem?_eq_getElem hj]; exact List.getElem_mem hj
  by_cases h4 : op = 4
  · subst h4
    by_cases h5 : 1 < bs.length
    · exact op_no (decide_eq_false (by omega)) w (refOp_bad4 _ _ cp h5 hl w)
    · exact op_yes (decide_eq_true (by omega)) (opRow_4 bs) w (refOp4_ok g off cp _ _ (by omega) (by omega) hl hS w hg hcell)
  · refine op_yes (decide_eq_true (by omega)) (opRow_eq op bs h4) w ?_
    have h7 : op = 1 ∨ op = 2 ∨ op = 3 := by omega
    rcases h7 with rfl | rfl | rfl
    · exact refOp1_ok g off cp _ _ (by omega) hl hS w hg hcell
    · exact refOp2_ok g off cp _ _ (by omega) hl hS w hg hcell
    · exact refOp3_ok g off cp _ _ (by omega) hl hS w hg hcell
end Go.Proofs.YtgdebcpnihibjaaDoor
