/- The walk of BlobOps. -/
import Derived.Test.YtgdebcpnihibjaaDoorBlobSure
import Derived.Deep.QuietTactic
import Derived.BigQuiet
namespace Go.Proofs.YtgdebcpnihibjaaDoor
open Go.ChangeShapes Go.WideShapes Go.ChangeAt Go.RowKit Go.Deep
set_option linter.unusedVariables false

theorem strInf : (Tryd.prog.info? 9).map (fun i => (i.zero, i.size, i.bytes)) = some (some (.string ⟨#[]⟩), 1, 16) := by kernel_rfl
section
variable {P : Program} {o : Oper} {a : Act} {Q : Exit → Act → World → Prop} {K : Act → World → Prop}
/-- 'append(nil, l...)', l a slice of texts. -/
theorem wpList_append_fresh {ops : Array Oper} {rest : List Oper} {w : World} (hgd : o.guard = none) (s x : Operand) (ho : o.op = .call { callee := .builtin .append, args := #[s, x], argTypes := #[45, 45] })
    (bs : List ByteArray) (u : Value) (hs : a.eval s = .slice none 0 0) (hx : a.eval x = u) (hu : SRow w u bs) (hn : bs.length ≤ 8796093022200)
    (h : ∀ v' w', ORow w' v' bs → Below w.heap.size w w' → wpList Tryd.prog ops Q rest (a.put o.dst v') w') : wpList Tryd.prog ops Q (o :: rest) a w := by
  obtain ⟨i, hi, hz, hsz, hby⟩ := info_parts strInf
  obtain ⟨ao, cp, rfl, hh⟩ := hu
  have out : ∀ v' w', w'.ownsRow w.heap.size 9 1 v' (0 + bs.length) ([] ++ bs.map Value.string) → w.grownBy w' none → wpList Tryd.prog ops Q rest (a.put o.dst v') w' := fun v' w' hown hg => by
    refine h v' w' ?_ ((Below.refl _ _).grown hg (Nat.le_refl _) fun k hk => by simp at hk)
    rw [Nat.zero_add, List.nil_append] at hown
    rcases hown.2 with ⟨rfl, h0⟩ | ⟨g, cap, cur, rfl, h2, h3, h4, h5, h6, h7⟩
    · have : bs = [] := List.eq_nil_of_length_eq_zero h0
      subst this
      exact ⟨none, 0, rfl, .inl rfl⟩
    · refine ⟨_, cap, rfl, .inr ⟨g, 0, rfl, (Array.getElem?_eq_some_iff.1 h3).1, h4, h5, fun j x hx => ?_⟩⟩
      have hj : j < bs.length := (List.getElem?_eq_some_iff.1 hx).1
      rw [Nat.zero_add]
      have h8 : (cur.toList.take (bs.length * 1))[j]? = some (.string x) := by rw [h7, List.getElem?_map, hx]; rfl
      rw [List.getElem?_take_of_lt (by omega), Array.getElem?_toList] at h8
      simp [World.cell?, h3, h8]
  have some_case : ∀ ad : Addr, ao = some ad → (∀ j u, (bs.map Value.string)[j]? = some u → w.cell? (ad.add j) = some u) → wpList Tryd.prog ops Q (o :: rest) a w := fun ad e hc => by
    subst e
    exact wpList_append_own w hgd s x _ ho w.heap.size 9 i _ 1 16 Tryd.underlying45 hi hz hsz hby rfl (by omega) (.slice none 0 0) 0 [] hs (World.ownsRow_nil _ _ _ _) ad bs.length cp (bs.map Value.string) hx (by simp) hc (by
      intro u hu
      obtain ⟨t, _, rfl⟩ := List.mem_map.1 hu
      rfl) (by unfold maxLen; omega) (by omega) (Nat.le_refl _) fun v' w' h2 h3 _ => out v' w' h2 h3
  rcases hh with rfl | ⟨g, off, rfl, hg, hc⟩
  · rcases ao with _ | ad
    · refine wpList_plain hgd fun K hK => ?_
      have hrun : (Builtin.append_ #[45, 45] o.type #[.slice none 0 0, .slice none 0 cp]).run Tryd.prog w = .ok (.slice none 0 0) w := by
        simp [Builtin.append_, run_underlying Tryd.underlying45, sizeOf, typeInfo, hi, Builtin.lenOf, Builtin.firstCells]
      have hk := hK _ _ (h (.slice none 0 0) w ⟨none, 0, rfl, .inl rfl⟩ (Below.refl _ _))
      unfold Oper.wp
      simp [execOp, ho, resolve, invoke, builtin, hs, hx, hrun, Result.andThen]
      exact hk
    · exact some_case ad rfl (by simp)
  · refine some_case _ rfl fun j u hu => ?_
    obtain ⟨t, ht, rfl⟩ : ∃ t, bs[j]? = some t ∧ Value.string t = u := by simpa using hu
    rw [add_plain]
    exact hc j t ht
end
theorem ORow.srow {w : World} {v : Value} {bs : List ByteArray} (h : ORow w v bs) : SRow w v bs := by
  obtain ⟨ao, cp, rfl, h⟩ := h
  refine ⟨ao, cp, rfl, h.imp id ?_⟩
  rintro ⟨g, off, rfl, hg, _, _, hc⟩
  exact ⟨g, off, rfl, hg, hc⟩

set_option maxRecDepth 100000 in
theorem blobOps_walk (op : Int) (wop : (Lit.int .i64 op).wf = true) (v : Value) (bs : List ByteArray) (hz : ∀ b ∈ bs, b.size ≤ 140737488351232) (hl : bs.length ≤ 8796093022200) (w : World) (h : Pows w) (hv : Sents w) (hr : SRow w v bs) :
    Calls Tryd.prog 7 #[.int .i64 op, v] w fun e w' => e = .returned (.bool true) ∧ Below w.heap.size w w' := by
  have H := Lib.hid h
  have HV := Lib.hid hv
  have HR := Lib.hid hr
  have HZ := Lib.hid hz
  clear h hv hr hz
  go_enter Tryd.func7, Tryd.ntmps7
  go_wp2_with (at_builtin; refine wpList_append_fresh rfl _ _ rfl bs v rfl rfl HR.out hl ?_; intro vm w1 hm b1; have HM := Lib.hid (And.intro hm b1); clear hm b1)
  ((with_reducible refine (op_any op vm bs HZ.out (by omega) _ HM.out.1).mono ?_); rintro e w2 ⟨rfl, b2⟩)
  have B2 := HM.out.2.trans (b2.mono HM.out.2.size)
  have MR := Lib.hid (HM.out.1.srow.kept b2)
  clear b2
  go_wp2_with fail
  ((with_reducible refine (refOp_any op v bs HZ.out (by omega) _ (HR.out.kept B2)).mono ?_); rintro e w3 ⟨rfl, b3⟩)
  have B3 := B2.trans (b3.mono B2.size)
  have MR3 := Lib.hid (MR.out.kept b3)
  have HR3 := Lib.hid (HR.out.kept B3)
  clear b3 B2 MR
  obtain ⟨ao, cp, rfl, h1⟩ := HR3.out
  obtain ⟨am, cm, rfl, h2⟩ := MR3.out
  have H1 := Lib.hid h1
  have H2 := Lib.hid h2
  clear h1 h2
  generalize opS op bs = x
  generalize opE op bs = y
  go_wp2_with fail
  go_loopw [10] (fun i wr => (∃ k : Nat, k ≤ bs.length ∧ i = .int .i64 k) ∧ ∃ n, wr = w3.drewN n) (fun i _ => bs.length - (intOf i).toNat)
  case atStart => exact ⟨⟨0, Nat.zero_le _, rfl⟩, 0, rfl⟩
  case round =>
    obtain ⟨⟨k, hk, rfl⟩, n, rfl⟩ := hrel
    by_cases hlt : k < bs.length
    · obtain ⟨t, ht⟩ : ∃ t, bs[k]? = some t := ⟨bs[k], List.getElem?_eq_getElem hlt⟩
      obtain ⟨g, off, rfl, hg, hc⟩ := H1.out.resolve_left (fun e => by rw [e] at hlt; exact absurd hlt (Nat.not_lt_zero _))
      obtain ⟨g2, off2, rfl, hg2, hc2⟩ := H2.out.resolve_left (fun e => by rw [e] at hlt; exact absurd hlt (Nat.not_lt_zero _))
      have hc1 := hc k t ht
      have hc3 := hc2 k t ht
      clear hc hc2 ht
      have hk0 : (0 : Int) ≤ (k : Int) := by omega
      have hk1 : (k : Int) < (bs.length : Int) := by omega
      go_wp2_with fail
      go_quiet (fail)
      go_wp2
      go_roundw
      case rel => exact ⟨⟨k + 1, by omega, by go_num⟩, _, rfl⟩
      case measure => simp [intOf]; omega
    · go_wp2_with fail
      ((with_reducible refine (sure_any _ (H.out.kept (B := 0) (below_drewN B3 _)) (HV.out.kept (below_drewN B3 _))).mono ?_); rintro e w4 ⟨rfl, b4⟩)
      go_wp2
      go_ret
      exact ⟨rfl, (below_drewN B3 _).trans (b4.mono (below_drewN B3 n).size)⟩

section
variable {H : Type} {enc : TypeId × Value → H} {P : Program} {W : World}
theorem srow_each {r : Reach} {b0 : Nat} {t e : TypeId} {v : Value} {d : DataW H} {ps : List MemPlace} {sp : Nat → Bool} (ht : P.underlying t = some (.slice e)) (he : P.underlying e = some .string) (hc : P.cellsOf e = 1)
    (hval : Value.okWide P W r b0 t v) (h : DataW.Trod enc P W 0 sp true t v d ps) (hlt : ∀ x ∈ ps, x.block < W.heap.size) :
    ∃ bs, SRow W v bs ∧ ((d.weights P t).all (· ≤ reachBytes) = true → bs.length * P.bytesOf e ≤ reachBytes ∧ ∀ b ∈ bs, b.size ≤ reachBytes) := by
  obtain ⟨a0, len, cap, rfl⟩ := okWide_slice ht hval
  obtain ⟨fuel, hf⟩ := h
  rcases open_strs ht he hc hf with ⟨hcs, hx⟩ | ⟨a, len', cap', m, Sx, hcs, _, hl, hm, hmm, hx, hcell⟩
  · simp [Value.cells] at hcs
    obtain ⟨rfl, rfl, rfl⟩ := hcs
    exact ⟨[], ⟨none, 0, rfl, .inl rfl⟩, by simp⟩
  · simp [Value.cells] at hcs
    obtain ⟨rfl, rfl, rfl⟩ := hcs
    simp only [Prod.mk.injEq] at hx
    obtain ⟨rfl, rfl⟩ := hx
    have hlm : len ≤ m := by rw [hmm]; split <;> omega
    refine ⟨(List.range len).map Sx, ⟨some a, cap, by simp, ?_⟩, fun hw => ⟨?_, fun b hb => ?_⟩⟩
    · by_cases h0 : len = 0
      · left; rw [h0]; rfl
      · right
        obtain ⟨g, off, spot⟩ := a
        have hspot : spot = none := by simpa [Addr.add] using World.cell?_spot (hcell 0 (by omega)).1
        subst hspot
        refine ⟨g, off, rfl, hlt (MemPlace.cell g off) (MemPlace.mem_row.2 ⟨0, by omega, rfl⟩), fun j x hx => ?_⟩
        have hj : j < len := by simpa using (List.getElem?_eq_some_iff.1 hx).1
        rw [← add_plain, (hcell j (by omega)).1]
        simp [hj] at hx
        rw [hx]
    · have := List.all_eq_true.1 hw ((len + (m - len)) * P.bytesOf e) (by simp [DataW.weights, ht])
      have h2 : (len + (m - len)) * P.bytesOf e ≤ reachBytes := by simpa using this
      refine Nat.le_trans (Nat.mul_le_mul_right _ ?_) h2
      simp
    · obtain ⟨i, hi, rfl⟩ := List.mem_map.1 hb
      have hn : (Sx i).data.toList.length ∈ DataW.weightsAll P e ((List.range len).map fun i => (DataW.lit (.string (Sx i).data.toList) : DataW H)) := weightsAll_mem (List.mem_map.2 ⟨i, hi, rfl⟩) _ (by simp [DataW.weights])
      have := List.all_eq_true.1 hw (Sx i).data.toList.length (by simp only [DataW.weights, ht, List.mem_cons, List.mem_append]; exact .inr (.inl hn))
      simpa using this
end
end Go.Proofs.YtgdebcpnihibjaaDoor
