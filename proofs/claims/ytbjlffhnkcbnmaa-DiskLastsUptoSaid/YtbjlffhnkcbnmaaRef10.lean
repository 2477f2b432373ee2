/- The document's disk: Create, Truncate. -/
import Derived.Test.YtbjlffhnkcbnmaaRef9
import Derived.Test.YtbjlffhnkcbnmaaDsk6
namespace Go.Proofs.Ytbjlffhnkcbnmaa
open Go.ChangeShapes Go.WideShapes Go.ChangeAt Go.RowKit Pl
set_option linter.unusedVariables false

theorem infoRF : (Try.prog.info? 100).map (fun i => (i.zero, i.size, i.bytes)) = some (some (.agg #[.string ⟨#[]⟩, .int .i64 0]), 2, 24) := by kernel_rfl
/-- The files have one more: the row has grown, its head is stored. -/
theorem RDiskAt.filed {wq wx w5 : World} {b : Nat} {F : Nat → Prop} {S : Dk} {fv nv lv ov pv : Value} (h : RDiskAt wq b F S fv nv lv ov pv) (fs : List Fl) {gg n cap : Nat} (hn : fs.length = n)
    (bx : Below wq.heap.size wq wx) (hown : w5.ownsRow 0 100 2 (.slice (some ⟨gg, 0, none⟩) n cap) n (fs.flatMap rfCells)) (hgrow : wx.grownBy w5 fv.ownBlock) (hat : fv.ownBlock = some gg ∨ wq.heap.size ≤ gg) (hlt : gg < w5.heap.size) :
    RDiskAt (w5.setCell ⟨b, 0, none⟩ (.slice (some ⟨gg, 0, none⟩) n cap)) b (fun k => F k ∨ (wq.heap.size ≤ k ∧ k < w5.heap.size)) { S with files := fs } (.slice (some ⟨gg, 0, none⟩) n cap) nv lv ov pv ∧
    Wr F wq (w5.setCell ⟨b, 0, none⟩ (.slice (some ⟨gg, 0, none⟩) n cap)) ∧ w5.cell? ⟨b, 0, none⟩ = some fv ∧ w5.frozen? ⟨b, 0, none⟩ = false := by
  subst hn
  have hw5 : Wr F wq w5 := (Wr.of_below bx).grown hgrow (fun k e => .inl (h.files.2 k e))
  have hof : ∀ k, k < wq.heap.size → fv.ownBlock ≠ some k → w5.heap[k]? = wq.heap[k]? := fun k hk hne =>
    (hgrow.block k (Nat.lt_of_lt_of_le hk bx.size) (fun e => hne e.symm)).trans (bx.block k hk)
  have hty : ∀ k cur e fz, wq.heap[k]? = some (.cells cur e fz) → e ≠ 100 → fv.ownBlock ≠ some k := fun k cur e fz hk he e2 => by
    rcases h.files.1.2 with ⟨h1, _⟩ | ⟨g, cap, cur', h1, _, hg, _⟩
    · rw [h1] at e2; simp [Value.ownBlock] at e2
    · rw [h1] at e2; simp [Value.ownBlock] at e2; subst e2; rw [hg] at hk; simp at hk; exact he hk.2.1.symm
  have hblk : w5.heap[b]? = some (.cells #[fv, nv, lv, ov, pv, .int .i64 S.steps, .bool S.down] 52 (0, 0)) := (hof b (h.lt b h.own) (hty b _ _ _ h.block (by decide))).trans h.block
  have hsz := hw5.size
  have set_other : ∀ k, k ≠ b → (w5.setCell ⟨b, 0, none⟩ (.slice (some ⟨gg, 0, none⟩) fs.length cap)).heap[k]? = w5.heap[k]? := fun k hk => Below.heap_setCell _ _ _ _ hk
  have hall : ∀ (k : Nat) (cur : Array Value) (e : TypeId), wq.heap[k]? = some (.cells cur e (0, 0)) → e ≠ 100 → e ≠ 52 → (w5.setCell ⟨b, 0, none⟩ (.slice (some ⟨gg, 0, none⟩) fs.length cap)).heap[k]? = wq.heap[k]? := fun k cur e hk he hd =>
    (set_other k (h.notb hd hk)).trans (hof k (Array.getElem?_eq_some_iff.1 hk).1 (hty k _ _ _ hk he))
  refine ⟨⟨fun k hk => ?_, .inl h.own, heap_setCell_same hblk, ?_, ?_, ?_, ?_, ?_⟩, hw5.setCell (p := ⟨b, 0, none⟩) h.own _, by simp [World.cell?, hblk], by simp only [World.frozen?, hblk]; simp⟩
  · rw [heap_setCell_size]
    rcases hk with hk | hk
    · exact Nat.lt_of_lt_of_le (h.lt k hk) hsz
    · exact hk.2
  · have hr : RowC w5 (fun k => F k ∨ (wq.heap.size ≤ k ∧ k < w5.heap.size)) 100 2 (.slice (some ⟨gg, 0, none⟩) fs.length cap) fs.length (fs.flatMap rfCells) :=
      ⟨hown, fun g hg => by
        simp [Value.ownBlock] at hg; subst hg
        exact hat.elim (fun e => .inl (h.files.2 _ e)) (fun e => .inr ⟨e, hlt⟩)⟩
    exact hr.kept_by fun k cur hk => set_other k fun e => by
      rw [e, hblk] at hk
      simp only [Option.some.injEq, Obj.cells.injEq] at hk
      exact absurd hk.2.1 (by decide)
  · exact (RowC.kept_by h.names fun k cur hk => hall k cur _ hk (by decide) (by decide)).mono fun k hk => .inl hk
  · exact (RowC.kept_by h.last fun k cur hk => hall k cur _ hk (by decide) (by decide)).mono fun k hk => .inl hk
  · exact (h.opn.kept_by fun k cur hk => hall k cur _ hk (by decide) (by decide)).mono fun k hk => .inl hk
  · exact (h.plan.same (by rw [heap_setCell_size]; exact hsz) fun k cur fz hF hk => (set_other k (h.notb (by decide) hk)).trans (hof k (h.lt k hF) (hty k _ _ _ hk (by decide)))).mono fun k hk => .inl hk
set_option maxRecDepth 100000 in
set_option maxHeartbeats 1600000 in
theorem refCreate_any {w : World} {b j : Nat} {F : Nat → Prop} {S : Dk} (h : RDisk w b F S) (hI : S.Inv) (hS : S.Small j) (hj : j ≤ 4194300) (n : Tx) :
    Calls Try.prog 38 #[.pointer (some ⟨b, 0, none⟩), .string (str n)] w (ROpEnd b F (S.createS n) (.int .i64 (S.createE n)) w) := by
  have HA := Lib.hid (refAsked_any h (Nat.le_trans hI.good.few (by have := hS.files; omega)) n)
  unfold RAskEnd at HA
  have HF := Lib.hid (refFault_any h (by have := hS.steps; omega) hS.plan hI.plan)
  unfold RFaultEnd at HF
  have H := Lib.hid h
  by_cases h0 : S.askE n = 0
  · rw [if_pos h0, h0] at HA
    have HR := Lib.hid (show S.createE n = 51 ∧ S.createS n = S from ⟨by unfold Dk.createE; rw [if_pos h0], by unfold Dk.createS; rw [if_pos (by omega)]⟩)
    clear h h0 hI
    go_enter Try.func38, Try.ntmps38
    go_wp2_with fail
    ((refine HA.out.mono ?_); rintro e w1 ⟨rfl, rfl⟩)
    go_wp2
    go_ret
    exact ⟨by rw [HR.out.1]; rfl, F, by rw [HR.out.2]; exact H.out, Grew.refl _ _, Wr.refl _ _⟩
  rw [if_neg h0] at HA
  by_cases h5 : S.askE n = 50
  · rw [h5] at HA
    by_cases hf : S.faultE = 0
    · rw [hf] at HF
      have HR := Lib.hid (show S.createE n = 0 ∧ S.createS n = Dk.turn { S.faultS with files := S.files ++ [⟨[], 0⟩] } ⟨1, n, [], S.files.length⟩ from ⟨by unfold Dk.createE; rw [if_neg (by omega), if_neg (by omega), hf], by unfold Dk.createS; rw [if_neg (by omega), if_neg (by omega)]⟩)
      have hfl := hS.files
      have HT := Lib.hid (fun (W : World) (G : Nat → Prop) (hd : RDisk W b G { S.faultS with files := S.files ++ [⟨[], 0⟩] }) => refTurn_any (w := W) hd (N := S.files.length) hI.good (by omega) (c := ⟨1, n, [], S.files.length⟩) (by show 1 ≤ 1 ∧ 1 ≤ 3; omega) (by have := hS.opn; show S.opn.length ≤ _; omega))
      obtain ⟨i0, hi, hz0, hz1, hz2⟩ := info_parts infoRF
      clear h h0 h5 hf hI
      go_enter Try.func38, Try.ntmps38
      go_wp2_with fail
      ((refine HA.out.mono ?_); rintro e w1 ⟨rfl, rfl⟩)
      go_wp2_with fail
      ((refine HF.out.mono ?_); rintro e w1 ⟨rfl, ⟨fv, nv, lv, ov, pv, h1⟩, r1⟩)
      obtain ⟨fa, fc, rfl⟩ := h1.files.shape
      obtain ⟨d0, -, -, -, -, -, -⟩ := h1.cells
      have H1 := Lib.hid (And.intro h1 r1)
      have HOW := Lib.hid (show (w1.alloc (.cells #[.string ⟨#[]⟩, .int .i64 0] 100)).ownsRow 0 100 2 (.slice fa S.files.length fc) S.files.length (S.files.flatMap rfCells) from h1.files.1.alloc _)
      have hb0 := h1.lt b h1.own
      have hfe : S.faultS.files.length = S.files.length := rfl
      rw [hfe] at d0
      have h63 : S.files.length + 1 ≤ maxLen := by unfold maxLen; omega
      have hby : (S.files.length + 1) * 24 ≤ 140737488355328 := by omega
      clear h1 r1 hfe
      go_wp2_with (at_builtin; refine wpList_append_lies _ (by rfl) (.tmp 32) (.tmp 34) 48 (by rfl) 0 100 i0 _ 2 24 Try.underlying48 hi hz0 hz1 hz2 rfl (by omega) (.slice fa S.files.length fc) S.files.length (S.files.flatMap rfCells) (by rfl) HOW.out ⟨w1.heap.size, 0, none⟩ 1 1 [.string ⟨#[]⟩, .int .i64 0] (by simp [Act.eval]) (by rfl) (World.news_of_block (cs := #[.string ⟨#[]⟩, .int .i64 0]) (t := 100) (fr := (0, 0)) (heap_alloc_new w1 _)) (by intro u hu; rcases List.mem_cons.1 hu with rfl | hu; rfl; rw [List.mem_singleton.1 hu]; rfl) (by omega) h63 hby (Nat.zero_le _) (w1.heap.size + 1) (by simp) ?_)
      intro gg cap w5 hown5 hgrow hat hlt5
      have P := RDiskAt.filed H1.out.1 (S.files ++ [⟨[], 0⟩]) (n := S.files.length + 1) (by simp) ((Below.refl _ _).alloc (Nat.le_refl _) _) (by rw [List.flatMap_append]; exact hown5) hgrow (hat.imp id (fun e => by omega)) hlt5
      obtain ⟨P1, P2, c5, f5⟩ := P
      have hw5 : w1.heap.size ≤ w5.heap.size := by have := P2.size; rw [heap_setCell_size] at this; exact this
      obtain ⟨g0, -, -, -, -, -, -⟩ := P1.cells
      have HP := Lib.hid (And.intro P1 P2)
      clear P1 P2 hown5 hgrow hat hlt5 hb0
      go_wp2_with fail
      generalize w5.setCell ⟨b, 0, none⟩ (.slice (some ⟨gg, 0, none⟩) (S.files.length + 1) cap) = w6 at HP g0 ⊢
      have hlen : IntKind.i64.wrap (((S.files.length + 1 : Nat) : Int) - 1) = (S.files.length : Int) := by rw [IntWalk.i64_in _ (by omega)]; omega
      have HT1 := Lib.hid (HT.out w6 _ ⟨_, _, _, _, _, HP.out.1⟩)
      clear d0 c5 f5
      go_wp2_with fail
      ((refine HT1.out.mono ?_); rintro e w2 ⟨rfl, r2⟩)
      have H2 := Lib.hid (show RLeaves b F (S.createS n) w w2 from by
        rw [HR.out.2]
        obtain ⟨F', d, g, r⟩ := r2
        have hs1 := H1.out.2.size
        have hs2 := HP.out.2.size
        refine ⟨F', d, fun k hk => ?_, H1.out.2.trans (HP.out.2.trans r fun k hk => hk.imp id And.left) (Grew.refl _ _)⟩
        rcases g k hk with (h | h) | h
        · exact .inl h
        · exact .inr (by omega)
        · exact .inr (by omega))
      clear r2
      go_wp2
      go_ret
      exact ⟨by rw [HR.out.1]; rfl, H2.out⟩
    · obtain ⟨k, hk⟩ : ∃ k, S.faultE = k := ⟨_, rfl⟩
      have HV := Lib.hid (show S.createS n = S.faultS ∧ S.createE n = k from ⟨by unfold Dk.createS; rw [if_neg (by omega), if_pos hf], by unfold Dk.createE; rw [if_neg (by omega), if_neg (by omega), hk]⟩)
      rw [hk] at HF hf
      have b1 : ((k : Int) == 0) = false := by rw [beq_eq_false_iff_ne]; omega
      clear h h0 h5 hk hI
      go_enter Try.func38, Try.ntmps38
      go_wp2_with fail
      ((refine HA.out.mono ?_); rintro e w1 ⟨rfl, rfl⟩)
      go_wp2_with fail
      ((refine HF.out.mono ?_); rintro e w1 ⟨rfl, h1, r1⟩)
      have H1 := Lib.hid (And.intro h1 r1)
      clear h1 r1
      go_wp2
      go_ret
      exact ⟨by rw [HV.out.2]; rfl, F, by rw [HV.out.1]; exact H1.out.1, Grew.refl _ _, H1.out.2⟩
  · obtain ⟨k, hk⟩ : ∃ k, S.askE n = k := ⟨_, rfl⟩
    rw [hk] at HA h0 h5
    have HR := Lib.hid (show S.createE n = k ∧ S.createS n = S from ⟨by unfold Dk.createE; rw [if_neg (by omega), if_pos (by omega), hk], by unfold Dk.createS; rw [if_pos (by omega)]⟩)
    have b1 : ((k : Int) == 0) = false := by rw [beq_eq_false_iff_ne]; omega
    have b2 : ((k : Int) == 50) = false := by rw [beq_eq_false_iff_ne]; omega
    clear h h0 h5 hk hI
    go_enter Try.func38, Try.ntmps38
    go_wp2_with fail
    ((refine HA.out.mono ?_); rintro e w1 ⟨rfl, rfl⟩)
    go_wp2
    go_ret
    exact ⟨by rw [HR.out.1]; rfl, F, by rw [HR.out.2]; exact H.out, Grew.refl _ _, Wr.refl _ _⟩
theorem modify_like {l : List Fl} {i : Nat} {f : Fl} {g g' : Fl → Fl} (h : l[i]? = some f) (hg : g f = g' f) : l.modify i g = l.modify i g' := by
  refine List.ext_getElem? fun j => ?_
  rw [List.getElem?_modify, List.getElem?_modify]
  by_cases e : i = j
  · subst e; rw [h]; simp [hg]
  · simp [e]
theorem modify_same {l : List Fl} {i : Nat} {f : Fl} {g : Fl → Fl} (h : l[i]? = some f) (hg : g f = f) : l.modify i g = l := by
  refine List.ext_getElem? fun j => ?_
  rw [List.getElem?_modify]
  by_cases e : i = j
  · subst e; rw [h]; simp [hg]
  · simp [e]
theorem modify_two (l : List Fl) (i : Nat) (g g' : Fl → Fl) : (l.modify i g).modify i g' = l.modify i (fun f => g' (g f)) := by
  refine List.ext_getElem? fun j => ?_
  rw [List.getElem?_modify, List.getElem?_modify, List.getElem?_modify]
  by_cases e : i = j <;> simp [e] <;> cases l[j]? <;> rfl
theorem take_same {t : Tx} {k : Nat} (h : t.length ≤ k) : t.take k = t := List.take_of_length_le h
set_option maxRecDepth 100000 in
set_option maxHeartbeats 1600000 in
theorem refTruncate_any {w : World} {b j : Nat} {F : Nat → Prop} {S : Dk} (h : RDisk w b F S) (hI : S.Inv) (hS : S.Small j) (hj : j ≤ 4194300) (n : Tx) (k : Int) :
    Calls Try.prog 40 #[.pointer (some ⟨b, 0, none⟩), .string (str n), .int .i64 k] w (ROpEnd b F (S.truncS n k) (.int .i64 (S.appendE n)) w) := by
  have HA := Lib.hid (refAsked_any h (Nat.le_trans hI.good.few (by have := hS.files; omega)) n)
  unfold RAskEnd at HA
  have HF := Lib.hid (refFault_any h (by have := hS.steps; omega) hS.plan hI.plan)
  unfold RFaultEnd at HF
  have H := Lib.hid h
  by_cases h0 : S.askE n = 0
  · have hlt := hI.fileLt h0
    obtain ⟨f, hf⟩ : ∃ f, S.files[S.fileOf n]? = some f := ⟨_, List.getElem?_eq_getElem hlt⟩
    rw [if_pos h0, h0] at HA
    by_cases he : S.faultE = 0
    · have HV := Lib.hid (show S.truncS n k = S.faultS.setF (S.fileOf n) (fun f => ⟨f.text.take k.toNat, min f.sync k.toNat⟩) ∧ S.appendE n = 0 from ⟨by unfold Dk.truncS; rw [if_neg (by omega), if_neg (by omega)], by unfold Dk.appendE; rw [if_neg (by omega), he]⟩)
      rw [he] at HF
      have hft := hS.texts f (List.mem_of_getElem? hf)
      obtain ⟨i, hi⟩ : ∃ i, S.fileOf n = i := ⟨_, rfl⟩
      rw [hi] at HA HV hf hlt
      have hiI : (i : Int) < (S.files.length : Int) := by omega
      have hi0 : (0 : Int) ≤ (i : Int) := by omega
      have hss := str_size f.text
      have HFl := Lib.hid hf
      obtain ⟨m, hm⟩ : ∃ m, k.toNat = m := ⟨_, rfl⟩
      rw [hm] at HV
      have hI0 := Lib.hid hI.sync
      clear h h0 hf hi hI he
      have hsy := hI0.out f (List.mem_of_getElem? HFl.out)
      by_cases hk0 : k < 0
      · have hm0 : m = 0 := by omega
        subst hm0
        clear hm
        have hcut := str_take f.text 0 (Nat.zero_le _)
        by_cases hA : 0 < f.text.length
        · have hAI : (0 : Int) < (f.text.length : Int) := by omega
          by_cases hB : 0 < f.sync
          · have hBI : (0 : Int) < (f.sync : Int) := by omega
            have HN := Lib.hid (show S.faultS.setF i (fun f => ⟨f.text.take 0, min f.sync 0⟩) = { S.faultS with files := (S.faultS.files.modify i (fun f => ⟨f.text.take 0, f.sync⟩)).modify i (fun f => ⟨f.text, 0⟩) } from by
              unfold Dk.setF
              rw [modify_two, modify_like (g := fun f : Fl => ⟨f.text.take 0, min f.sync 0⟩) (g' := fun f => ⟨f.text.take 0, 0⟩) (show S.faultS.files[i]? = some f from HFl.out) (by show (⟨_, min f.sync 0⟩ : Fl) = _; rw [Nat.min_eq_right (by omega)])])
            go_enter Try.func40, Try.ntmps40
            go_wp2_with fail
            ((refine HA.out.mono ?_); rintro e w1 ⟨rfl, rfl⟩)
            go_wp2_with fail
            ((refine HF.out.mono ?_); rintro e w1 ⟨rfl, ⟨fv, nv, lv, ov, pv, h1⟩, r1⟩)
            obtain ⟨fa, fc, rfl⟩ := h1.files.shape
            obtain ⟨g, rfl, -, hFg, hg, p0, p1⟩ := h1.file (show S.faultS.files[i]? = some f from HFl.out)
            obtain ⟨d0, -, -, -, -, -, -⟩ := h1.cells
            have hfl : S.faultS.files.length = S.files.length := rfl
            rw [hfl] at d0
            have HS := Lib.hid (h1.stored (i * 2) (.string ByteArray.empty) (S.faultS.files.modify i (fun f => ⟨f.text.take 0, f.sync⟩)) (List.length_modify ..) (rfRow_set0 (show S.faultS.files[i]? = some f from HFl.out) rfl) rfl (show 0 < S.files.length by omega))
            have g1 : w1.drew.frozen? ⟨g, i * 2, none⟩ = false := HS.out.2.2
            have p0' : w1.drew.cell? ⟨g, i * 2, none⟩ = some (.string (str f.text)) := p0
            have H1 := Lib.hid (And.intro h1 (And.intro hFg r1))
            clear h1 r1 hfl
            have HS2 := Lib.hid (And.intro HS.out.1 ((H1.out.2.2.setCell (p := ⟨g, i * 2, none⟩) H1.out.2.1 (.string ByteArray.empty))))
            have HS2 : Hid (RDiskAt (w1.setCell ⟨g, i * 2, none⟩ (.string ByteArray.empty)) b F { S.faultS with files := S.faultS.files.modify i (fun f => ⟨f.text.take 0, f.sync⟩) } (.slice (some ⟨g, 0, none⟩) S.files.length fc) nv lv ov pv ∧ Wr F w (w1.setCell ⟨g, i * 2, none⟩ (.string ByteArray.empty))) := HS2
            have hf2 : (S.faultS.files.modify i (fun f => ⟨f.text.take 0, f.sync⟩))[i]? = some ⟨f.text.take 0, f.sync⟩ := by
              rw [List.getElem?_modify, show S.faultS.files[i]? = some f from HFl.out]; simp
            obtain ⟨g', eg, -, -, -, q0, q1⟩ := HS2.out.1.file hf2
            obtain rfl : g = g' := by simpa using eg
            obtain ⟨e0, -, -, -, -, -, -⟩ := HS2.out.1.cells
            have HS3 := Lib.hid (HS2.out.1.stored (i * 2 + 1) (.int .i64 (0 : Nat)) ((S.faultS.files.modify i (fun f => ⟨f.text.take 0, f.sync⟩)).modify i (fun f => ⟨f.text, 0⟩)) (List.length_modify ..) (rfRow_set1 hf2 rfl) (by simp; rfl) (show 0 < S.files.length by omega))
            have g2 := HS3.out.2.2
            clear hf2 eg
            go_wp2_with fail
            go_still_tail 17, (by kernel_rfl)
            go_wp2
            go_ret
            exact ⟨by rw [HV.out.2]; rfl, F, by rw [HV.out.1, HN.out]; exact (HS3.out.1.below (Below.refl _ _).drew).disk, Grew.refl _ _, (HS2.out.2.setCell (p := ⟨g, i * 2 + 1, none⟩) HS3.out.2.1 _).drewN 1⟩
          · have hBI : ¬ (0 : Int) < (f.sync : Int) := by omega
            have HN := Lib.hid (show S.faultS.setF i (fun f => ⟨f.text.take 0, min f.sync 0⟩) = { S.faultS with files := S.faultS.files.modify i (fun f => ⟨f.text.take 0, f.sync⟩) } from by
              unfold Dk.setF
              rw [modify_like (g := fun f : Fl => ⟨f.text.take 0, min f.sync 0⟩) (g' := fun f => ⟨f.text.take 0, f.sync⟩) (show S.faultS.files[i]? = some f from HFl.out) (by show (⟨_, min f.sync 0⟩ : Fl) = _; rw [Nat.min_eq_left (by omega)])])
            go_enter Try.func40, Try.ntmps40
            go_wp2_with fail
            ((refine HA.out.mono ?_); rintro e w1 ⟨rfl, rfl⟩)
            go_wp2_with fail
            ((refine HF.out.mono ?_); rintro e w1 ⟨rfl, ⟨fv, nv, lv, ov, pv, h1⟩, r1⟩)
            obtain ⟨fa, fc, rfl⟩ := h1.files.shape
            obtain ⟨g, rfl, -, hFg, hg, p0, p1⟩ := h1.file (show S.faultS.files[i]? = some f from HFl.out)
            obtain ⟨d0, -, -, -, -, -, -⟩ := h1.cells
            have hfl : S.faultS.files.length = S.files.length := rfl
            rw [hfl] at d0
            have HS := Lib.hid (h1.stored (i * 2) (.string ByteArray.empty) (S.faultS.files.modify i (fun f => ⟨f.text.take 0, f.sync⟩)) (List.length_modify ..) (rfRow_set0 (show S.faultS.files[i]? = some f from HFl.out) rfl) rfl (show 0 < S.files.length by omega))
            have g1 : w1.drew.frozen? ⟨g, i * 2, none⟩ = false := HS.out.2.2
            have p0' : w1.drew.cell? ⟨g, i * 2, none⟩ = some (.string (str f.text)) := p0
            have H1 := Lib.hid (And.intro h1 (And.intro hFg r1))
            clear h1 r1 hfl
            have HS2 := Lib.hid (And.intro HS.out.1 ((H1.out.2.2.setCell (p := ⟨g, i * 2, none⟩) H1.out.2.1 (.string ByteArray.empty))))
            have HS2 : Hid (RDiskAt (w1.setCell ⟨g, i * 2, none⟩ (.string ByteArray.empty)) b F { S.faultS with files := S.faultS.files.modify i (fun f => ⟨f.text.take 0, f.sync⟩) } (.slice (some ⟨g, 0, none⟩) S.files.length fc) nv lv ov pv ∧ Wr F w (w1.setCell ⟨g, i * 2, none⟩ (.string ByteArray.empty))) := HS2
            have hf2 : (S.faultS.files.modify i (fun f => ⟨f.text.take 0, f.sync⟩))[i]? = some ⟨f.text.take 0, f.sync⟩ := by
              rw [List.getElem?_modify, show S.faultS.files[i]? = some f from HFl.out]; simp
            obtain ⟨g', eg, -, -, -, q0, q1⟩ := HS2.out.1.file hf2
            obtain rfl : g = g' := by simpa using eg
            obtain ⟨e0, -, -, -, -, -, -⟩ := HS2.out.1.cells
            have HS3 := Lib.hid (HS2.out.1.stored (i * 2 + 1) (.int .i64 (0 : Nat)) ((S.faultS.files.modify i (fun f => ⟨f.text.take 0, f.sync⟩)).modify i (fun f => ⟨f.text, 0⟩)) (List.length_modify ..) (rfRow_set1 hf2 rfl) (by simp; rfl) (show 0 < S.files.length by omega))
            have g2 := HS3.out.2.2
            clear hf2 eg
            go_wp2_with fail
            go_still_tail 17, (by kernel_rfl)
            go_wp2
            go_ret
            exact ⟨by rw [HV.out.2]; rfl, F, by rw [HV.out.1, HN.out]; exact (HS2.out.1.below (Below.refl _ _).drew).disk, Grew.refl _ _, HS2.out.2.drewN 1⟩
        · have hAI : ¬ (0 : Int) < (f.text.length : Int) := by omega
          have hBI : ¬ (0 : Int) < (f.sync : Int) := by omega
          have HN := Lib.hid (show S.faultS.setF i (fun f => ⟨f.text.take 0, min f.sync 0⟩) = S.faultS from by
            unfold Dk.setF
            rw [modify_same (show S.faultS.files[i]? = some f from HFl.out) (by rw [take_same (by omega), Nat.min_eq_left (by omega)])])
          go_enter Try.func40, Try.ntmps40
          go_wp2_with fail
          ((refine HA.out.mono ?_); rintro e w1 ⟨rfl, rfl⟩)
          go_wp2_with fail
          ((refine HF.out.mono ?_); rintro e w1 ⟨rfl, ⟨fv, nv, lv, ov, pv, h1⟩, r1⟩)
          obtain ⟨fa, fc, rfl⟩ := h1.files.shape
          obtain ⟨g, rfl, -, hFg, hg, p0, p1⟩ := h1.file (show S.faultS.files[i]? = some f from HFl.out)
          obtain ⟨d0, -, -, -, -, -, -⟩ := h1.cells
          have hfl : S.faultS.files.length = S.files.length := rfl
          rw [hfl] at d0
          have HS := Lib.hid (h1.stored (i * 2) (.string ByteArray.empty) (S.faultS.files.modify i (fun f => ⟨f.text.take 0, f.sync⟩)) (List.length_modify ..) (rfRow_set0 (show S.faultS.files[i]? = some f from HFl.out) rfl) rfl (show 0 < S.files.length by omega))
          have g1 : w1.drew.frozen? ⟨g, i * 2, none⟩ = false := HS.out.2.2
          have p0' : w1.drew.cell? ⟨g, i * 2, none⟩ = some (.string (str f.text)) := p0
          have H1 := Lib.hid (And.intro h1 (And.intro hFg r1))
          clear h1 r1 hfl
          go_wp2
          go_ret
          exact ⟨by rw [HV.out.2]; rfl, F, by rw [HV.out.1, HN.out]; exact H1.out.1.disk, Grew.refl _ _, H1.out.2.2⟩
      · obtain rfl : k = (m : Int) := by omega
        have hcut := fun hA => str_take f.text m hA
        by_cases hA : m < f.text.length
        · have hAI : (m : Int) < (f.text.length : Int) := by omega
          have hAL : (m : Int) ≤ (f.text.length : Int) := by omega
          replace hcut := hcut (by omega)
          by_cases hB : m < f.sync
          · have hBI : (m : Int) < (f.sync : Int) := by omega
            have HN := Lib.hid (show S.faultS.setF i (fun f => ⟨f.text.take m, min f.sync m⟩) = { S.faultS with files := (S.faultS.files.modify i (fun f => ⟨f.text.take m, f.sync⟩)).modify i (fun f => ⟨f.text, m⟩) } from by
              unfold Dk.setF
              rw [modify_two, modify_like (g := fun f : Fl => ⟨f.text.take m, min f.sync m⟩) (g' := fun f => ⟨f.text.take m, m⟩) (show S.faultS.files[i]? = some f from HFl.out) (by show (⟨_, min f.sync m⟩ : Fl) = _; rw [Nat.min_eq_right (by omega)])])
            clear hm
            go_enter Try.func40, Try.ntmps40
            go_wp2_with fail
            ((refine HA.out.mono ?_); rintro e w1 ⟨rfl, rfl⟩)
            go_wp2_with fail
            ((refine HF.out.mono ?_); rintro e w1 ⟨rfl, ⟨fv, nv, lv, ov, pv, h1⟩, r1⟩)
            obtain ⟨fa, fc, rfl⟩ := h1.files.shape
            obtain ⟨g, rfl, -, hFg, hg, p0, p1⟩ := h1.file (show S.faultS.files[i]? = some f from HFl.out)
            obtain ⟨d0, -, -, -, -, -, -⟩ := h1.cells
            have hfl : S.faultS.files.length = S.files.length := rfl
            rw [hfl] at d0
            have HS := Lib.hid (h1.stored (i * 2) (.string (str (f.text.take m))) (S.faultS.files.modify i (fun f => ⟨f.text.take m, f.sync⟩)) (List.length_modify ..) (rfRow_set0 (show S.faultS.files[i]? = some f from HFl.out) rfl) rfl (show 0 < S.files.length by omega))
            have g1 : w1.drew.frozen? ⟨g, i * 2, none⟩ = false := HS.out.2.2
            have p0' : w1.drew.cell? ⟨g, i * 2, none⟩ = some (.string (str f.text)) := p0
            have H1 := Lib.hid (And.intro h1 (And.intro hFg r1))
            clear h1 r1 hfl
            have HS2 := Lib.hid (And.intro HS.out.1 ((H1.out.2.2.setCell (p := ⟨g, i * 2, none⟩) H1.out.2.1 (.string (str (f.text.take m))))))
            have HS2 : Hid (RDiskAt (w1.setCell ⟨g, i * 2, none⟩ (.string (str (f.text.take m)))) b F { S.faultS with files := S.faultS.files.modify i (fun f => ⟨f.text.take m, f.sync⟩) } (.slice (some ⟨g, 0, none⟩) S.files.length fc) nv lv ov pv ∧ Wr F w (w1.setCell ⟨g, i * 2, none⟩ (.string (str (f.text.take m))))) := HS2
            have hf2 : (S.faultS.files.modify i (fun f => ⟨f.text.take m, f.sync⟩))[i]? = some ⟨f.text.take m, f.sync⟩ := by
              rw [List.getElem?_modify, show S.faultS.files[i]? = some f from HFl.out]; simp
            obtain ⟨g', eg, -, -, -, q0, q1⟩ := HS2.out.1.file hf2
            obtain rfl : g = g' := by simpa using eg
            obtain ⟨e0, -, -, -, -, -, -⟩ := HS2.out.1.cells
            have HS3 := Lib.hid (HS2.out.1.stored (i * 2 + 1) (.int .i64 m) ((S.faultS.files.modify i (fun f => ⟨f.text.take m, f.sync⟩)).modify i (fun f => ⟨f.text, m⟩)) (List.length_modify ..) (rfRow_set1 hf2 rfl) (by simp; rfl) (show 0 < S.files.length by omega))
            have g2 := HS3.out.2.2
            clear hf2 eg
            go_wp2_with fail
            go_still_tail 17, (by kernel_rfl)
            go_wp2
            go_ret
            exact ⟨by rw [HV.out.2]; rfl, F, by rw [HV.out.1, HN.out]; exact (HS3.out.1.below (Below.refl _ _).drew).disk, Grew.refl _ _, (HS2.out.2.setCell (p := ⟨g, i * 2 + 1, none⟩) HS3.out.2.1 _).drewN 1⟩
          · have hBI : ¬ (m : Int) < (f.sync : Int) := by omega
            have HN := Lib.hid (show S.faultS.setF i (fun f => ⟨f.text.take m, min f.sync m⟩) = { S.faultS with files := S.faultS.files.modify i (fun f => ⟨f.text.take m, f.sync⟩) } from by
              unfold Dk.setF
              rw [modify_like (g := fun f : Fl => ⟨f.text.take m, min f.sync m⟩) (g' := fun f => ⟨f.text.take m, f.sync⟩) (show S.faultS.files[i]? = some f from HFl.out) (by show (⟨_, min f.sync m⟩ : Fl) = _; rw [Nat.min_eq_left (by omega)])])
            clear hm
            go_enter Try.func40, Try.ntmps40
            go_wp2_with fail
            ((refine HA.out.mono ?_); rintro e w1 ⟨rfl, rfl⟩)
            go_wp2_with fail
            ((refine HF.out.mono ?_); rintro e w1 ⟨rfl, ⟨fv, nv, lv, ov, pv, h1⟩, r1⟩)
            obtain ⟨fa, fc, rfl⟩ := h1.files.shape
            obtain ⟨g, rfl, -, hFg, hg, p0, p1⟩ := h1.file (show S.faultS.files[i]? = some f from HFl.out)
            obtain ⟨d0, -, -, -, -, -, -⟩ := h1.cells
            have hfl : S.faultS.files.length = S.files.length := rfl
            rw [hfl] at d0
            have HS := Lib.hid (h1.stored (i * 2) (.string (str (f.text.take m))) (S.faultS.files.modify i (fun f => ⟨f.text.take m, f.sync⟩)) (List.length_modify ..) (rfRow_set0 (show S.faultS.files[i]? = some f from HFl.out) rfl) rfl (show 0 < S.files.length by omega))
            have g1 : w1.drew.frozen? ⟨g, i * 2, none⟩ = false := HS.out.2.2
            have p0' : w1.drew.cell? ⟨g, i * 2, none⟩ = some (.string (str f.text)) := p0
            have H1 := Lib.hid (And.intro h1 (And.intro hFg r1))
            clear h1 r1 hfl
            have HS2 := Lib.hid (And.intro HS.out.1 ((H1.out.2.2.setCell (p := ⟨g, i * 2, none⟩) H1.out.2.1 (.string (str (f.text.take m))))))
            have HS2 : Hid (RDiskAt (w1.setCell ⟨g, i * 2, none⟩ (.string (str (f.text.take m)))) b F { S.faultS with files := S.faultS.files.modify i (fun f => ⟨f.text.take m, f.sync⟩) } (.slice (some ⟨g, 0, none⟩) S.files.length fc) nv lv ov pv ∧ Wr F w (w1.setCell ⟨g, i * 2, none⟩ (.string (str (f.text.take m))))) := HS2
            have hf2 : (S.faultS.files.modify i (fun f => ⟨f.text.take m, f.sync⟩))[i]? = some ⟨f.text.take m, f.sync⟩ := by
              rw [List.getElem?_modify, show S.faultS.files[i]? = some f from HFl.out]; simp
            obtain ⟨g', eg, -, -, -, q0, q1⟩ := HS2.out.1.file hf2
            obtain rfl : g = g' := by simpa using eg
            obtain ⟨e0, -, -, -, -, -, -⟩ := HS2.out.1.cells
            have HS3 := Lib.hid (HS2.out.1.stored (i * 2 + 1) (.int .i64 m) ((S.faultS.files.modify i (fun f => ⟨f.text.take m, f.sync⟩)).modify i (fun f => ⟨f.text, m⟩)) (List.length_modify ..) (rfRow_set1 hf2 rfl) (by simp; rfl) (show 0 < S.files.length by omega))
            have g2 := HS3.out.2.2
            clear hf2 eg
            go_wp2_with fail
            go_still_tail 17, (by kernel_rfl)
            go_wp2
            go_ret
            exact ⟨by rw [HV.out.2]; rfl, F, by rw [HV.out.1, HN.out]; exact (HS2.out.1.below (Below.refl _ _).drew).disk, Grew.refl _ _, HS2.out.2.drewN 1⟩
        · have hAI : ¬ (m : Int) < (f.text.length : Int) := by omega
          have hBI : ¬ (m : Int) < (f.sync : Int) := by omega
          have HN := Lib.hid (show S.faultS.setF i (fun f => ⟨f.text.take m, min f.sync m⟩) = S.faultS from by
            unfold Dk.setF
            rw [modify_same (show S.faultS.files[i]? = some f from HFl.out) (by rw [take_same (by omega), Nat.min_eq_left (by omega)])])
          clear hm hcut
          go_enter Try.func40, Try.ntmps40
          go_wp2_with fail
          ((refine HA.out.mono ?_); rintro e w1 ⟨rfl, rfl⟩)
          go_wp2_with fail
          ((refine HF.out.mono ?_); rintro e w1 ⟨rfl, ⟨fv, nv, lv, ov, pv, h1⟩, r1⟩)
          obtain ⟨fa, fc, rfl⟩ := h1.files.shape
          obtain ⟨g, rfl, -, hFg, hg, p0, p1⟩ := h1.file (show S.faultS.files[i]? = some f from HFl.out)
          obtain ⟨d0, -, -, -, -, -, -⟩ := h1.cells
          have hfl : S.faultS.files.length = S.files.length := rfl
          rw [hfl] at d0
          have HS := Lib.hid (h1.stored (i * 2) (.string (str (f.text.take m))) (S.faultS.files.modify i (fun f => ⟨f.text.take m, f.sync⟩)) (List.length_modify ..) (rfRow_set0 (show S.faultS.files[i]? = some f from HFl.out) rfl) rfl (show 0 < S.files.length by omega))
          have g1 : w1.drew.frozen? ⟨g, i * 2, none⟩ = false := HS.out.2.2
          have p0' : w1.drew.cell? ⟨g, i * 2, none⟩ = some (.string (str f.text)) := p0
          have H1 := Lib.hid (And.intro h1 (And.intro hFg r1))
          clear h1 r1 hfl
          go_wp2
          go_ret
          exact ⟨by rw [HV.out.2]; rfl, F, by rw [HV.out.1, HN.out]; exact H1.out.1.disk, Grew.refl _ _, H1.out.2.2⟩
    · obtain ⟨e, hk⟩ : ∃ e, S.faultE = e := ⟨_, rfl⟩
      have HV := Lib.hid (show S.truncS n k = S.faultS ∧ S.appendE n = e from ⟨by unfold Dk.truncS; rw [if_neg (by omega), if_pos he], by unfold Dk.appendE; rw [if_neg (by omega), hk]⟩)
      rw [hk] at HF he
      have b1 : ((e : Int) == 0) = false := by rw [beq_eq_false_iff_ne]; omega
      clear h h0 he hk hf hI
      go_enter Try.func40, Try.ntmps40
      go_wp2_with fail
      ((refine HA.out.mono ?_); rintro e w1 ⟨rfl, rfl⟩)
      go_wp2_with fail
      ((refine HF.out.mono ?_); rintro e w1 ⟨rfl, h1, r1⟩)
      have H1 := Lib.hid (And.intro h1 r1)
      clear h1 r1
      go_wp2
      go_ret
      exact ⟨by rw [HV.out.2]; rfl, F, by rw [HV.out.1]; exact H1.out.1, Grew.refl _ _, H1.out.2⟩
  · rw [if_neg h0] at HA
    obtain ⟨e, hk⟩ : ∃ e, S.askE n = e := ⟨_, rfl⟩
    have HV := Lib.hid (show S.truncS n k = S ∧ S.appendE n = e from ⟨by unfold Dk.truncS; rw [if_pos h0], by unfold Dk.appendE; rw [if_pos h0, hk]⟩)
    rw [hk] at HA h0
    have b1 : ((e : Int) == 0) = false := by rw [beq_eq_false_iff_ne]; omega
    clear h h0 hk hI
    go_enter Try.func40, Try.ntmps40
    go_wp2_with fail
    ((refine HA.out.mono ?_); rintro e w1 ⟨rfl, rfl⟩)
    go_wp2
    go_ret
    exact ⟨by rw [HV.out.2]; rfl, F, by rw [HV.out.1]; exact H.out, Grew.refl _ _, Wr.refl _ _⟩
end Go.Proofs.Ytbjlffhnkcbnmaa
