/- The document's disk: Crash. -/
import Derived.Test.YtbjlffhnkcbnmaaRef11
import Derived.Test.YtbjlffhnkcbnmaaDsk12
import Derived.Test.YtbjlffhnkcbnmaaPlainDisk2
namespace Go.Proofs.Ytbjlffhnkcbnmaa
open Go.ChangeShapes Go.WideShapes Go.ChangeAt Go.RowKit Pl
set_option linter.unusedVariables false
set_option linter.unusedSimpArgs false

theorem leftQ_end {S : Dk} {k : Int} {q : Nat} (h : S.opn.length ≤ q ∨ ¬ (q : Int) < k) : leftQ S k q = S.left k := by
  unfold leftQ Dk.left
  rw [List.take_take]
  rcases h with h | h
  · congr 1
    rw [List.take_eq_take_iff]; omega
  · rw [show min k.toNat q = k.toNat by omega]
theorem rcRow_get : ∀ {l : List Ch} {j : Nat} {c : Ch}, l[j]? = some c → ∀ i, i < 4 → (l.flatMap rcCells)[j * 4 + i]? = (rcCells c)[i]?
  | [], j, c, h => by simp at h
  | d :: r, 0, c, h => fun i hi => by
    simp at h; subst h
    rw [List.flatMap_cons, List.getElem?_append_left (by simp [rcCells]; omega)]
    congr 1; omega
  | d :: r, j + 1, c, h => fun i hi => by
    rw [List.flatMap_cons, List.getElem?_append_right (by simp [rcCells]; omega), ← rcRow_get (l := r) (j := j) (by simpa using h) i hi]
    congr 1; simp [rcCells]; omega
theorem box_two {w : World} {g : Nat} {x y : Value} {e : TypeId} (h : w.heap[g]? = some (.cells #[x, y] e (0, 0))) (u v : Value) :
    (w.setCell ⟨g, 0, none⟩ u).cell? ⟨g, 0, none⟩ = some u ∧ (w.setCell ⟨g, 0, none⟩ u).frozen? ⟨g, 1, none⟩ = false ∧ ((w.setCell ⟨g, 0, none⟩ u).setCell ⟨g, 1, none⟩ v).heap[g]? = some (.cells #[u, v] e (0, 0)) := by
  have h1 := heap_setCell_same (i := 0) (v := u) h
  have h2 := heap_setCell_same (i := 1) (v := v) h1
  exact ⟨by simp [World.cell?, h1], by simp only [World.frozen?, h1]; simp, h2⟩
theorem cutAll_snoc (bs : List Int) : ∀ (l : Nm) (p : Tx × Nat) (i : Nat) (fs : List Fl), cutAll bs (l ++ [p]) i fs = (cutAll bs l i fs).modify p.2 (cut bs (i + l.length))
  | [], p, i, fs => rfl
  | q :: r, p, i, fs => by
    show cutAll bs (r ++ [p]) (i + 1) _ = _
    rw [cutAll_snoc bs r p (i + 1) _]
    show _ = (cutAll bs r (i + 1) _).modify p.2 _
    rw [List.length_cons, show i + 1 + r.length = i + (r.length + 1) by omega]
theorem cutAll_take (bs : List Int) {l : Nm} {q : Nat} {p : Tx × Nat} (hp : l[q]? = some p) (fs : List Fl) : cutAll bs (l.take (q + 1)) 0 fs = (cutAll bs (l.take q) 0 fs).modify p.2 (cut bs q) := by
  obtain ⟨h1, h2⟩ := List.getElem?_eq_some_iff.1 hp
  rw [List.take_succ_eq_append_getElem h1, h2, cutAll_snoc, List.length_take, show 0 + min q l.length = q by omega]
theorem take_fresh {l : Nm} (hn : (l.map (·.2)).Nodup) {q : Nat} {p : Tx × Nat} (hp : l[q]? = some p) : p.2 ∉ (l.take q).map (·.2) := fun hm => by
  obtain ⟨x, hx, e⟩ := List.mem_map.1 hm
  obtain ⟨i, hi⟩ := List.getElem?_of_mem hx
  have hiq : i < q := by
    have := (List.getElem?_eq_some_iff.1 hi).1
    rw [List.length_take] at this; omega
  rw [List.getElem?_take_of_lt hiq] at hi
  have := inj_idx hn hi hp e
  omega
theorem NRow.fileSet {w : World} {F : Nat → Prop} {v : Value} {l : Nm} (h : NRow w F v l) {a : Nat} {cur : Array Value} (ha : w.heap[a]? = some (.cells cur 100 (0, 0))) (j : Nat) (u : Value) : NRow (w.setCell ⟨a, j, none⟩ u) F v l :=
  RowC.kept_by h fun k cur' hk => Below.heap_setCell _ _ _ _ fun e => by
    rw [e, ha] at hk
    simp only [Option.some.injEq, Obj.cells.injEq] at hk
    exact absurd hk.2.1 (by decide)
/-- The disk behind a crash. -/
theorem RDiskAt.crashed {w w' : World} {b : Nat} {F G : Nat → Prop} {S : Dk} {fs : List Fl} {N : Nm} {fv nv lv ov pv v : Value} (h : RDiskAt w b F { S with files := fs } fv nv lv ov pv) (hn : NRow w G v N)
    (hb : w'.heap[b]? = some (.cells #[fv, v, v, .slice none 0 0, .slice none 0 0, .int .i64 S.steps, .bool false] 52 (0, 0))) (ho : ∀ k, k ≠ b → w'.heap[k]? = w.heap[k]?) (hs : w'.heap.size = w.heap.size) :
    RDiskAt w' b (fun k => F k ∨ (G k ∧ k < w.heap.size)) ⟨fs, N, N, [], [], S.steps, false⟩ fv v v (.slice none 0 0) (.slice none 0 0) where
  lt := fun k hk => by rw [hs]; exact hk.elim (h.lt k) And.right
  own := .inl h.own
  block := hb
  files := (h.files.kept_by fun k cur hk => ho k (h.notb (by decide) hk)).mono fun k hk => .inl hk
  names := RowC.kept_by (show NRow w (fun k => F k ∨ (G k ∧ k < w.heap.size)) v N from ⟨hn.1, fun g hg => .inr ⟨hn.2 g hg, (World.ownsRow.lt hn.1 g hg).2⟩⟩) fun k cur hk => ho k (h.notb (by decide) hk)
  last := RowC.kept_by (show NRow w (fun k => F k ∨ (G k ∧ k < w.heap.size)) v N from ⟨hn.1, fun g hg => .inr ⟨hn.2 g hg, (World.ownsRow.lt hn.1 g hg).2⟩⟩) fun k cur hk => ho k (h.notb (by decide) hk)
  opn := RowC.nil _ _ _ _
  plan := PRow.nil _ _
set_option maxRecDepth 100000 in
set_option maxHeartbeats 3200000 in
theorem refCrash_any {w : World} {b j : Nat} {F G : Nat → Prop} {S : Dk} (h : RDisk w b F S) (hI : S.Inv) (hS : S.Small j) (hj : j ≤ 4194300) (k : Int) (v : Value) (bs : List Int) (hv : IRow w G v bs) (hG : ∀ x, G x → ¬ F x) (hbl : bs.length ≤ 4194304) :
    Calls Try.prog 28 #[.pointer (some ⟨b, 0, none⟩), .agg #[.int .i64 k, v]] w (ROpEnd b F (S.crashS k bs) (.tuple #[]) w) := by
  obtain ⟨fv, nv, lv, ov, pv, h⟩ := h
  obtain ⟨va, vc, rfl⟩ := hv.shape
  obtain ⟨fa, fc, rfl⟩ := h.files.shape
  obtain ⟨la, lc, rfl⟩ := h.last.shape
  obtain ⟨oa, oc, rfl⟩ := h.opn.shape
  have HA := Lib.hid (show RDiskAt (w.alloc (.cells #[.int .i64 k, .slice va bs.length vc] 24)) b F S (.slice fa S.files.length fc) nv (.slice la S.last.length lc) (.slice oa S.opn.length oc) pv ∧ Wr F w (w.alloc (.cells #[.int .i64 k, .slice va bs.length vc] 24)) ∧ (w.alloc (.cells #[.int .i64 k, .slice va bs.length vc] 24)).heap[w.heap.size]? = some (.cells #[.int .i64 k, .slice va bs.length vc] 24 (0, 0)) ∧ IRow (w.alloc (.cells #[.int .i64 k, .slice va bs.length vc] 24)) G (.slice va bs.length vc) bs from
    ⟨h.alloc _, (Wr.refl _ _).alloc _, heap_alloc_new w _, hv.kept ((Wr.refl F w).alloc _) hG⟩)
  have hwb : (w.alloc (.cells #[.int .i64 k, .slice va bs.length vc] 24)).heap.size = w.heap.size + 1 := by simp
  have HnF := Lib.hid (show ¬ F w.heap.size from fun hk => Nat.lt_irrefl _ (h.lt _ hk))
  have HHG := Lib.hid hG
  obtain ⟨-, -, c2, -, -, -, -⟩ := HA.out.1.cells
  have hol := hS.opn
  clear h hv hG
  go_enter Try.func28, Try.ntmps28
  go_wp2_with fail
  generalize w.alloc (.cells #[.int .i64 k, .slice va bs.length vc] 24) = wb at HA hwb c2 ⊢
  have HWB := Lib.hid hwb
  have HBX := Lib.hid (show ∀ W, Wr F wb W → W.cell? ⟨w.heap.size, 0, none⟩ = some (.int .i64 k) ∧ W.cell? ⟨w.heap.size, 1, none⟩ = some (.slice va bs.length vc) from fun W hW => by
    have h1 := (hW.block w.heap.size (by omega) HnF.out).trans HA.out.2.2.1
    exact ⟨by simp [World.cell?, h1], by simp [World.cell?, h1]⟩)
  clear c2 hwb
  go_loopw [4, 5] (fun x i wr => ∃ (q : Nat) (xa : Option Addr) (xc : Nat), q ≤ S.opn.length ∧ .slice xa (leftQ S k q).length xc = x ∧ i = .int .i64 q ∧ Hid (NRow wr (fun g => F g ∨ wb.heap.size ≤ g) (.slice xa (leftQ S k q).length xc) (leftQ S k q)) ∧ Hid (Below wb.heap.size wb wr)) (fun _ i _ => S.opn.length - (intOf i).toNat)
  case atStart => exact ⟨0, la, lc, Nat.zero_le _, by rw [leftQ_zero], rfl, by show NRow _ _ _ _; rw [leftQ_zero]; exact HA.out.1.last.mono fun g hg => .inl hg, Below.refl _ _⟩
  case round =>
    obtain ⟨q, xa, xc, hq, rfl, rfl, hr, hw⟩ := hrel
    have HD := Lib.hid (HA.out.1.kept (G := fun _ => False) (Wr.of_below hw.out) (fun _ _ h => h))
    obtain ⟨-, -, -, c3, -, -, -⟩ := HD.out.cells
    have bx := (HBX.out wr (Wr.of_below hw.out)).1
    by_cases hql : q < S.opn.length
    · have hqI : (q : Int) < (S.opn.length : Int) := by omega
      have hq0 : (0 : Int) ≤ (q : Int) := by omega
      by_cases hqk : (q : Int) < k
      · obtain ⟨c, hc⟩ : ∃ c, S.opn[q]? = some c := ⟨_, List.getElem?_eq_getElem hql⟩
        obtain ⟨g, oc', e1, hgF, hg, -, hcell⟩ := RowC.at_ HD.out.opn (by omega) (by omega)
        cases e1
        have hgt := rcRow_get hc
        have d0 : wr.cell? ⟨g, q * 4, none⟩ = some (.int .i64 c.kind) := hcell _ _ (hgt 0 (by omega))
        have d1 : wr.cell? ⟨g, q * 4 + 1, none⟩ = some (.string (str c.src)) := hcell _ _ (hgt 1 (by omega))
        have d2 : wr.cell? ⟨g, q * 4 + 2, none⟩ = some (.string (str c.dst)) := hcell _ _ (hgt 2 (by omega))
        have d3 : wr.cell? ⟨g, q * 4 + 3, none⟩ = some (.int .i64 c.file) := hcell _ _ (hgt 3 (by omega))
        have hgood := hI.snd.good hI.last q
        rw [← (leftQ_in hc hqk).2] at hgood
        have hkind : 1 ≤ c.kind ∧ c.kind ≤ 3 := by
          have := hI.snd.at hc
          rcases this with ⟨e, _⟩ | ⟨e, _⟩ | ⟨e, _⟩ <;> omega
        have HCH := Lib.hid (show Calls Try.prog 50 #[.slice xa (leftQ S k q).length xc, .agg #[.int .i64 c.kind, .string (str c.src), .string (str c.dst), .int .i64 c.file]] wr (MadeN wr.heap.size (change (leftQ S k q) c) wr) from refChange_any hr.out hgood.ris (by have := hgood.few; have := hS.files; omega) c hkind)
        have HQ := Lib.hid (leftQ_in hc hqk).1
        obtain ⟨x1, hx1⟩ : ∃ x, leftQ S k q = x := ⟨_, rfl⟩
        rw [hx1] at HCH HQ
        clear hc hcell hgt hgood hkind
        go_wp2_with fail
        ((with_reducible refine HCH.out.mono ?_); rintro e wd ⟨vd, rfl, od, bd⟩)
        have od : ONRow wr.heap.size wd vd (change x1 c) := od
        obtain ⟨da, dc, rfl⟩ := od.shape
        have HM := Lib.hid (show NRow wd (fun g => F g ∨ wb.heap.size ≤ g) (.slice da (change x1 c).length dc) (change x1 c) ∧ Below wb.heap.size wb wd from ⟨od.nrow.mono fun g hg => .inr (Nat.le_trans hw.out.size hg), hw.out.trans (bd.mono hw.out.size)⟩)
        clear od bd
        go_wp2
        go_roundw
        case rel => exact ⟨q + 1, da, dc, by omega, by rw [HQ.out], by go_num, by show NRow _ _ _ _; rw [HQ.out]; exact HM.out.1, HM.out.2⟩
        case measure => simp [intOf]; omega
      · have HE := Lib.hid (leftQ_end (S := S) (k := k) (q := q) (.inr hqk))
        go_wp2_with fail
        obtain ⟨N, hN⟩ : ∃ N, S.left k = N := ⟨_, rfl⟩
        have HGN := Lib.hid (show Pl.Good S.files.length N by rw [← hN]; exact hI.left k)
        have hNf : N.length ≤ 4194304 := by have := HGN.out.few; have := hS.files; omega
        rw [HE.out, hN] at hr
        rw [HE.out, hN]
        have HNE := Lib.hid hN
        have HW0 := Lib.hid (Wr.of_below (F := F) hw.out)
        have HIR := Lib.hid (HA.out.2.2.2.kept HW0.out HHG.out)
        obtain ⟨wo, hwo⟩ : ∃ wo, wo = wr := ⟨_, rfl⟩
        subst hwo
        clear bx c3 hN
        go_wp2_with fail
        go_loopw [6] (fun i wr => ∃ q : Nat, q ≤ N.length ∧ i = .int .i64 q ∧ Hid (RDiskAt wr b F { S with files := cutAll bs (N.take q) 0 S.files } (.slice fa S.files.length fc) nv (.slice la S.last.length lc) (.slice oa S.opn.length oc) pv) ∧ Hid (NRow wr (fun g => F g ∨ wb.heap.size ≤ g) (.slice xa N.length xc) N) ∧ Hid (Wr F wo wr)) (fun i _ => N.length - (intOf i).toNat)
        case atStart => exact ⟨0, Nat.zero_le _, rfl, by show RDiskAt _ _ _ _ _ _ _ _ _; rw [List.take_zero]; exact HD.out, hr.out, Wr.refl _ _⟩
        case round =>
          obtain ⟨q, hq, rfl, hd, hn, hw⟩ := hrel
          by_cases hql : q < N.length
          · obtain ⟨p, hp⟩ : ∃ p, N[q]? = some p := ⟨_, List.getElem?_eq_getElem hql⟩
            have hpm := List.mem_of_getElem? hp
            obtain ⟨f, hf⟩ : ∃ f, S.files[p.2]? = some f := ⟨_, List.getElem?_eq_getElem (HGN.out.lt p hpm)⟩
            have hfs := hI.sync f (List.mem_of_getElem? hf)
            have hft := hS.texts f (List.mem_of_getElem? hf)
            have hfz := str_size f.text
            have hf2 : (cutAll bs (N.take q) 0 S.files)[p.2]? = some f := (cutAll_other bs _ 0 _ _ (take_fresh HGN.out.inj hp)).trans hf
            obtain ⟨a, ea, -, hFa, ha, f0, f1⟩ := hd.out.file hf2
            subst ea
            obtain ⟨gn, en, -, hgn, -, n1⟩ := hn.out.at_ hp
            subst en
            obtain ⟨c0, -, -, -, -, -, -⟩ := hd.out.cells
            have hblt := hd.out.lt b hd.out.own
            have HK := Lib.hid (show ∀ W, Below wr.heap.size wr W → W.cell? ⟨b, 0, none⟩ = some (.slice (some ⟨a, 0, none⟩) S.files.length fc) ∧ W.cell? ⟨gn, q * 2 + 1, none⟩ = some (.int .i64 p.2) ∧ W.cell? ⟨a, p.2 * 2, none⟩ = some (.string (str f.text)) ∧ W.cell? ⟨a, p.2 * 2 + 1, none⟩ = some (.int .i64 f.sync) from fun W hW => ⟨(hW.cell (by exact hblt)).trans c0, (hW.cell (by exact hgn)).trans n1, (hW.cell (by exact ha)).trans f0, (hW.cell (by exact ha)).trans f1⟩)
            have hqI : (q : Int) < (N.length : Int) := by omega
            have hq0 : (0 : Int) ≤ (q : Int) := by omega
            have hpl := HGN.out.lt p hpm
            have hpI : (p.2 : Int) < (S.files.length : Int) := by omega
            have hp0 : (0 : Int) ≤ (p.2 : Int) := by omega
            go_wp2_with fail
            refine wp_region_held_drew (S := (fun W => W.cell? ⟨b, 0, none⟩ = some (.slice (some ⟨a, 0, none⟩) S.files.length fc) ∧ W.cell? ⟨gn, q * 2 + 1, none⟩ = some (.int .i64 p.2) ∧ W.cell? ⟨a, p.2 * 2, none⟩ = some (.string (str f.text)) ∧ W.cell? ⟨a, p.2 * 2 + 1, none⟩ = some (.int .i64 f.sync))) (by kernel_rfl) ?_ (fun hHeld => ?_)
            · first | exact ⟨c0, n1, f0, f1⟩ | exact HK.out _ (Below.refl _ _).drew | exact HK.out _ ((Below.refl _ _).alloc (Nat.le_refl _) _).drew | exact HK.out _ (((Below.refl _ _).alloc (Nat.le_refl _) _).setCell (by simp) _).drew
            refine wpAnyH_take (i := 0) (oi := _) (v := ?_) rfl (by kernel_rfl) (by kernel_rfl) (by kernel_rfl) (fun _ _ _ h => h) (Or.inl ⟨by rfl, ?_⟩) hHeld ?_
            rotate_left
            · intro w hSw; (try dsimp only at hSw); go_simp; (try with_reducible rfl)
            simp only [Act.put, List.setIfInBounds_toArray, List.set_cons_zero, List.set_cons_succ]
            refine wpAnyH_take (i := 1) (oi := _) (v := ?_) rfl (by kernel_rfl) (by kernel_rfl) (by kernel_rfl) (fun _ _ _ h => h) (Or.inl ⟨by rfl, ?_⟩) hHeld ?_
            rotate_left
            · intro w hSw; (try dsimp only at hSw); go_simp; (try with_reducible rfl)
            simp only [Act.put, List.setIfInBounds_toArray, List.set_cons_zero, List.set_cons_succ]
            refine wpAnyH_take (i := 2) (oi := _) (v := ?_) rfl (by kernel_rfl) (by kernel_rfl) (by kernel_rfl) (fun _ _ _ h => h) (Or.inl ⟨by rfl, ?_⟩) hHeld ?_
            rotate_left
            · intro w hSw; (try dsimp only at hSw); go_simp; (try with_reducible rfl)
            simp only [Act.put, List.setIfInBounds_toArray, List.set_cons_zero, List.set_cons_succ]
            refine wpAnyH_take (i := 3) (oi := _) (v := ?_) rfl (by kernel_rfl) (by kernel_rfl) (by kernel_rfl) (fun _ _ _ h => h) (Or.inl ⟨by rfl, ?_⟩) hHeld ?_
            rotate_left
            · intro w hSw; (try dsimp only at hSw); go_simp; (try with_reducible rfl)
            simp only [Act.put, List.setIfInBounds_toArray, List.set_cons_zero, List.set_cons_succ]
            refine wpAnyH_take (i := 4) (oi := _) (v := ?_) rfl (by kernel_rfl) (by kernel_rfl) (by kernel_rfl) (fun _ _ _ h => h) (Or.inl ⟨by rfl, ?_⟩) hHeld ?_
            rotate_left
            · intro w hSw; (try dsimp only at hSw); go_simp; (try with_reducible rfl)
            simp only [Act.put, List.setIfInBounds_toArray, List.set_cons_zero, List.set_cons_succ]
            refine wpAnyH_take (i := 5) (oi := _) (v := ?_) rfl (by kernel_rfl) (by kernel_rfl) (by kernel_rfl) (fun _ _ _ h => h) (Or.inl ⟨by rfl, ?_⟩) hHeld ?_
            rotate_left
            · intro w hSw; (try dsimp only at hSw); go_simp; (try with_reducible rfl)
            simp only [Act.put, List.setIfInBounds_toArray, List.set_cons_zero, List.set_cons_succ]
            refine wpAnyH_take (i := 6) (oi := _) (v := ?_) rfl (by kernel_rfl) (by kernel_rfl) (by kernel_rfl) (fun _ _ _ h => h) (Or.inl ⟨by rfl, ?_⟩) hHeld ?_
            rotate_left
            · intro w hSw; (try dsimp only at hSw); go_simp; (try with_reducible rfl)
            simp only [Act.put, List.setIfInBounds_toArray, List.set_cons_zero, List.set_cons_succ]
            refine wpAnyH_take (i := 7) (oi := _) (v := ?_) rfl (by kernel_rfl) (by kernel_rfl) (by kernel_rfl) (fun _ _ _ h => h) (Or.inl ⟨by rfl, ?_⟩) hHeld ?_
            rotate_left
            · intro w hSw; (try dsimp only at hSw); go_simp; (try with_reducible rfl)
            simp only [Act.put, List.setIfInBounds_toArray, List.set_cons_zero, List.set_cons_succ]
            refine wpAnyH_take (i := 8) (oi := _) (v := ?_) rfl (by kernel_rfl) (by kernel_rfl) (by kernel_rfl) (fun _ _ _ h => h) (Or.inl ⟨by rfl, ?_⟩) hHeld ?_
            rotate_left
            · intro w hSw; (try dsimp only at hSw); go_simp; (try with_reducible rfl)
            simp only [Act.put, List.setIfInBounds_toArray, List.set_cons_zero, List.set_cons_succ]
            refine wpAnyH_take (i := 9) (oi := _) (v := ?_) rfl (by kernel_rfl) (by kernel_rfl) (by kernel_rfl) (fun _ _ _ h => h) (Or.inl ⟨by rfl, ?_⟩) hHeld ?_
            rotate_left
            · intro w hSw; (try dsimp only at hSw); go_simp; (try with_reducible rfl)
            simp only [Act.put, List.setIfInBounds_toArray, List.set_cons_zero, List.set_cons_succ]
            refine wpAnyH_take (i := 10) (oi := _) (v := ?_) rfl (by kernel_rfl) (by kernel_rfl) (by kernel_rfl) (fun _ _ _ h => h) (Or.inl ⟨by rfl, ?_⟩) hHeld ?_
            rotate_left
            · intro w hSw; (try dsimp only at hSw); go_simp; (try with_reducible rfl)
            simp only [Act.put, List.setIfInBounds_toArray, List.set_cons_zero, List.set_cons_succ]
            refine wpAnyH_ready (rs := [11]) (by kernel_rfl) (by simp) ?_
            refine (AllReadyH.cons (o := _) rfl (fun K hK => ?_) AllReadyH.nil)
            · skip
              go_simp
              refine hK.out _ _ ?_ (fun hHeld => ?_)
              · first | exact ⟨c0, n1, f0, f1⟩ | exact HK.out _ (Below.refl _ _).drew | exact HK.out _ ((Below.refl _ _).alloc (Nat.le_refl _) _).drew | exact HK.out _ (((Below.refl _ _).alloc (Nat.le_refl _) _).setCell (by simp) _).drew
              clear hK K
              (try simp only [Act.put, List.setIfInBounds_toArray, List.set_cons_zero, List.set_cons_succ])
              refine wpAnyH_ready (rs := [12]) (by kernel_rfl) (by simp) ?_
              refine (AllReadyH.cons (o := _) rfl (fun K hK => ?_) AllReadyH.nil)
              · skip
                go_simp
                refine hK.out _ _ ?_ (fun hHeld => ?_)
                · first | exact ⟨c0, n1, f0, f1⟩ | exact HK.out _ (Below.refl _ _).drew | exact HK.out _ ((Below.refl _ _).alloc (Nat.le_refl _) _).drew | exact HK.out _ (((Below.refl _ _).alloc (Nat.le_refl _) _).setCell (by simp) _).drew
                clear hK K
                (try simp only [Act.put, List.setIfInBounds_toArray, List.set_cons_zero, List.set_cons_succ])
                refine wpAnyH_done (by kernel_rfl) ?_ _
                have HWf := Lib.hid (show Wr F wo (wr.alloc (.cells #[.string (str f.text), .int .i64 f.sync] 100)) ∧ (wr.alloc (.cells #[.string (str f.text), .int .i64 f.sync] 100)).heap[wr.heap.size]? = some (.cells #[.string (str f.text), .int .i64 f.sync] 100 (0, 0)) ∧ Below wr.heap.size wr (wr.alloc (.cells #[.string (str f.text), .int .i64 f.sync] 100)) from ⟨hw.out.alloc _, heap_alloc_new wr _, (Below.refl _ _).alloc (Nat.le_refl _) _⟩)
                generalize wr.alloc (.cells #[.string (str f.text), .int .i64 f.sync] 100) = wf at HWf ⊢
                have hbox := HWf.out.2.1
                have b0 : ∀ n, (wf.drewN n).cell? ⟨wr.heap.size, 0, none⟩ = some (.string (str f.text)) := fun n => by show wf.cell? _ = _; simp [World.cell?, hbox]
                have b1 : ∀ n, (wf.drewN n).cell? ⟨wr.heap.size, 1, none⟩ = some (.int .i64 f.sync) := fun n => by show wf.cell? _ = _; simp [World.cell?, hbox]
                have hcb : ∀ n, (wf.drewN n).cell? ⟨w.heap.size, 1, none⟩ = some (.slice va bs.length vc) := fun n => (HBX.out wf (HW0.out.trans HWf.out.1 (Grew.refl _ _))).2
                have b0' : wf.cell? ⟨wr.heap.size, 0, none⟩ = some (.string (str f.text)) := b0 0
                have b1' : wf.cell? ⟨wr.heap.size, 1, none⟩ = some (.int .i64 f.sync) := b1 0
                have hcb' : wf.cell? ⟨w.heap.size, 1, none⟩ = some (.slice va bs.length vc) := hcb 0
                have z0 : wf.frozen? ⟨wr.heap.size, 0, none⟩ = false := by simp only [World.frozen?, hbox]; simp
                have z1 : wf.frozen? ⟨wr.heap.size, 1, none⟩ = false := by simp only [World.frozen?, hbox]; simp
                have HZ := Lib.hid (fun (n : Nat) (u v : Value) => box_two (w := wf.drewN n) hbox u v)
                have hfsI : (f.sync : Int) ≤ (f.text.length : Int) := by omega
                have hw1 : IntKind.i64.wrap ((f.text.length : Int) - (f.sync : Int)) = (f.text.length : Int) - (f.sync : Int) := IntWalk.i64_in _ (by omega)
                obtain ⟨n, hn⟩ : ∃ n, n = Pl.more bs q f := ⟨_, rfl⟩
                have hns : f.sync + n ≤ f.text.length := by rw [hn]; unfold Pl.more; omega
                have HN := Lib.hid (show Pl.cut bs q f = ⟨f.text.take (f.sync + n), f.sync + n⟩ by unfold Pl.cut; rw [← hn])
                have hcut := str_take f.text (f.sync + n) hns
                have hts : (str (f.text.take (f.sync + n))).size = f.sync + n := by rw [str_size, List.length_take]; omega
                have hnsI : (f.sync : Int) + (n : Int) ≤ (f.text.length : Int) := by omega
                have hw2 : IntKind.i64.wrap ((f.sync : Int) + (n : Int)) = (f.sync : Int) + (n : Int) := IntWalk.i64_in _ (by omega)
                have htn : ((f.sync : Int) + (n : Int)).toNat = f.sync + n := by omega
                have hTl : (f.text.take (f.sync + n)).length = f.sync + n := by rw [List.length_take]; omega
                clear hHeld
                by_cases hbs : bs.length = 0
                · have hn0 : n = 0 := by rw [hn]; unfold Pl.more; rw [if_pos (List.eq_nil_of_length_eq_zero hbs)]; omega
                  have hbI : ¬ (0 : Int) < (bs.length : Int) := by omega
                  have hbN : ¬ 0 < bs.length := by omega
                  clear hbs
                  have hz1 : ¬ ((f.text.length : Int) - (f.sync : Int)) < 0 := by omega
                  subst hn0
                  simp only [Nat.add_zero] at HN hcut hts hTl
                  obtain ⟨T, hT⟩ : ∃ T, f.text.take f.sync = T := ⟨_, rfl⟩
                  rw [hT] at HN hcut hts hTl
                  clear hn hT hw2 htn hnsI
                  obtain ⟨y0, y1, -⟩ := HZ.out 0 (.string (str T)) (.int .i64 f.sync)
                  replace y0 : (wf.setCell ⟨wr.heap.size, 0, none⟩ (.string (str T))).cell? ⟨wr.heap.size, 0, none⟩ = some (.string (str T)) := y0
                  replace y1 : (wf.setCell ⟨wr.heap.size, 0, none⟩ (.string (str T))).frozen? ⟨wr.heap.size, 1, none⟩ = false := y1
                  go_wp2_with fail
                  obtain ⟨m, hm⟩ : ∃ m, m = f.sync := ⟨_, rfl⟩
                  obtain ⟨wg, hwg⟩ : ∃ wg, ((wf.setCell ⟨wr.heap.size, 0, none⟩ (.string (str T))).setCell ⟨wr.heap.size, 1, none⟩ (.int .i64 f.sync)).drew = wg := ⟨_, rfl⟩
                  rw [hwg]
                  have HG := Lib.hid (show wg.heap[wr.heap.size]? = some (.cells #[.string (str T), .int .i64 m] 100 (0, 0)) ∧ Below wr.heap.size wr wg from by
                    rw [← hwg, hm]
                    exact ⟨(HZ.out 0 _ _).2.2, ((HWf.out.2.2.setCell (Nat.le_refl _) _).setCell (Nat.le_refl _) _).drew⟩)
                  rw [← hm] at HN
                  clear hm
                  clear hwg
                  have HKg := Lib.hid (show ∀ n, (wg.drewN n).cell? ⟨b, 0, none⟩ = some (.slice (some ⟨a, 0, none⟩) S.files.length fc) ∧ (wg.drewN n).cell? ⟨gn, q * 2 + 1, none⟩ = some (.int .i64 p.2) ∧ (wg.drewN n).cell? ⟨wr.heap.size, 0, none⟩ = some (.string (str T)) ∧ (wg.drewN n).cell? ⟨wr.heap.size, 1, none⟩ = some (.int .i64 m) from fun n => by
                    obtain ⟨k0, k1, -, -⟩ := HK.out (wg.drewN n) (below_drewN HG.out.2 n)
                    have hb := HG.out.1
                    refine ⟨k0, k1, ?_, ?_⟩
                    · show wg.cell? _ = _
                      simp [World.cell?, hb]
                    · show wg.cell? _ = _
                      simp [World.cell?, hb])
                  have hdg := hd.out.below HG.out.2
                  have HS1 := Lib.hid (hdg.stored (p.2 * 2) (.string (str T)) ((cutAll bs (N.take q) 0 S.files).modify p.2 (fun x => ⟨T, x.sync⟩)) (List.length_modify ..) (rfRow_set0 hf2 rfl) (by show S.files.length = (cutAll bs (N.take q) 0 S.files).length; rw [cutAll_length]) (by omega))
                  have hf3 : ((cutAll bs (N.take q) 0 S.files).modify p.2 (fun x => ⟨T, x.sync⟩))[p.2]? = some ⟨T, f.sync⟩ := by rw [List.getElem?_modify, hf2]; simp
                  have HS2 := Lib.hid (HS1.out.1.stored (p.2 * 2 + 1) (.int .i64 m) (((cutAll bs (N.take q) 0 S.files).modify p.2 (fun x => ⟨T, x.sync⟩)).modify p.2 (fun x => ⟨x.text, m⟩)) (List.length_modify ..) (rfRow_set1 hf3 rfl) (by show S.files.length = (List.modify _ _ _).length; rw [List.length_modify, cutAll_length]) (by omega))
                  have e0 : wg.cell? ⟨a, p.2 * 2, none⟩ = some (.string (str f.text)) := (HG.out.2.cell (by exact ha)).trans f0
                  have z0' : wg.frozen? ⟨a, p.2 * 2, none⟩ = false := HS1.out.2.2
                  obtain ⟨a', ea, -, -, -, -, e1⟩ := HS1.out.1.file hf3
                  obtain rfl : a = a' := by simpa using ea
                  have z1' := HS2.out.2.2
                  obtain ⟨cur, hcur⟩ : ∃ cur, wg.heap[a]? = some (.cells cur 100 (0, 0)) := by
                    obtain ⟨g, c, e, -, -, hc, -⟩ := RowC.at_ hdg.files (by show 0 < (cutAll bs (N.take q) 0 S.files).length; rw [cutAll_length]; omega) (by omega)
                    simp only [Value.slice.injEq, Option.some.injEq, Addr.mk.injEq] at e
                    obtain ⟨⟨rfl, -⟩, -⟩ := e
                    exact hc
                  have hng := hn.out.kept (G := fun _ => False) (Wr.of_below HG.out.2) (fun _ _ h => h)
                  have HN3 := Lib.hid ((hng.fileSet hcur (p.2 * 2) (.string (str T))).fileSet (heap_setCell_same hcur) (p.2 * 2 + 1) (.int .i64 m))
                  obtain ⟨gn', en, -, -, -, n3⟩ := HN3.out.at_ hp
                  obtain rfl : gn = gn' := by simpa using en
                  have hae : wr.heap.size ≠ a := by omega
                  have HK3 := Lib.hid (show ∀ n, ((((wg.setCell ⟨a, p.2 * 2, none⟩ (.string (str T))).setCell ⟨a, p.2 * 2 + 1, none⟩ (.int .i64 m))).drewN n).cell? ⟨b, 0, none⟩ = some (.slice (some ⟨a, 0, none⟩) S.files.length fc) ∧ ((((wg.setCell ⟨a, p.2 * 2, none⟩ (.string (str T))).setCell ⟨a, p.2 * 2 + 1, none⟩ (.int .i64 m))).drewN n).cell? ⟨gn, q * 2 + 1, none⟩ = some (.int .i64 p.2) ∧ ((((wg.setCell ⟨a, p.2 * 2, none⟩ (.string (str T))).setCell ⟨a, p.2 * 2 + 1, none⟩ (.int .i64 m))).drewN n).cell? ⟨wr.heap.size, 0, none⟩ = some (.string (str T)) ∧ ((((wg.setCell ⟨a, p.2 * 2, none⟩ (.string (str T))).setCell ⟨a, p.2 * 2 + 1, none⟩ (.int .i64 m))).drewN n).cell? ⟨wr.heap.size, 1, none⟩ = some (.int .i64 m) from fun n => by
                    have hb : ((wg.setCell ⟨a, p.2 * 2, none⟩ (.string (str T))).setCell ⟨a, p.2 * 2 + 1, none⟩ (.int .i64 m)).heap[wr.heap.size]? = some (.cells #[.string (str T), .int .i64 m] 100 (0, 0)) := by
                      rw [Below.heap_setCell _ _ _ _ hae, Below.heap_setCell _ _ _ _ hae]; exact HG.out.1
                    refine ⟨HS2.out.1.cells.1, n3, ?_, ?_⟩
                    · show World.cell? _ _ = _
                      simp [World.cell?, hb]
                    · show World.cell? _ _ = _
                      simp [World.cell?, hb])
                  have HF3 := Lib.hid (show (((cutAll bs (N.take q) 0 S.files).modify p.2 (fun x => ⟨T, x.sync⟩)).modify p.2 (fun x => ⟨x.text, m⟩)) = cutAll bs (N.take (q + 1)) 0 S.files from by
                    rw [cutAll_take bs hp, modify_two]
                    exact modify_like hf2 HN.out.symm)
                  have HW3 := Lib.hid (((hw.out.trans (Wr.of_below HG.out.2) (Grew.refl _ _)).setCell (p := ⟨a, p.2 * 2, none⟩) HS1.out.2.1 (.string (str T))).setCell (p := ⟨a, p.2 * 2 + 1, none⟩) HS2.out.2.1 (.int .i64 m))
                  clear hdg hf3 ea hcur hng en
                  refine wp_region_held_drew (S := (fun W => W.cell? ⟨b, 0, none⟩ = some (.slice (some ⟨a, 0, none⟩) S.files.length fc) ∧ W.cell? ⟨gn, q * 2 + 1, none⟩ = some (.int .i64 p.2) ∧ W.cell? ⟨wr.heap.size, 0, none⟩ = some (.string (str T)) ∧ W.cell? ⟨wr.heap.size, 1, none⟩ = some (.int .i64 m))) (by kernel_rfl) ?_ (fun hHeld => ?_)
                  · first | exact HKg.out _ | exact HKg.out 1 | exact HKg.out 2 | exact HK3.out _ | exact HK3.out 2
                  refine wpAnyH_take (i := 0) (oi := _) (v := ?_) rfl (by kernel_rfl) (by kernel_rfl) (by kernel_rfl) (fun _ _ _ h => h) (Or.inl ⟨by rfl, ?_⟩) hHeld ?_
                  rotate_left
                  · intro w hSw; (try dsimp only at hSw); go_simp; (try with_reducible rfl)
                  simp only [Act.put, List.setIfInBounds_toArray, List.set_cons_zero, List.set_cons_succ]
                  refine wpAnyH_take (i := 1) (oi := _) (v := ?_) rfl (by kernel_rfl) (by kernel_rfl) (by kernel_rfl) (fun _ _ _ h => h) (Or.inl ⟨by rfl, ?_⟩) hHeld ?_
                  rotate_left
                  · intro w hSw; (try dsimp only at hSw); go_simp; (try with_reducible rfl)
                  simp only [Act.put, List.setIfInBounds_toArray, List.set_cons_zero, List.set_cons_succ]
                  refine wpAnyH_take (i := 2) (oi := _) (v := ?_) rfl (by kernel_rfl) (by kernel_rfl) (by kernel_rfl) (fun _ _ _ h => h) (Or.inl ⟨by rfl, ?_⟩) hHeld ?_
                  rotate_left
                  · intro w hSw; (try dsimp only at hSw); go_simp; (try with_reducible rfl)
                  simp only [Act.put, List.setIfInBounds_toArray, List.set_cons_zero, List.set_cons_succ]
                  refine wpAnyH_take (i := 3) (oi := _) (v := ?_) rfl (by kernel_rfl) (by kernel_rfl) (by kernel_rfl) (fun _ _ _ h => h) (Or.inl ⟨by rfl, ?_⟩) hHeld ?_
                  rotate_left
                  · intro w hSw; (try dsimp only at hSw); go_simp; (try with_reducible rfl)
                  simp only [Act.put, List.setIfInBounds_toArray, List.set_cons_zero, List.set_cons_succ]
                  refine wpAnyH_take (i := 4) (oi := _) (v := ?_) rfl (by kernel_rfl) (by kernel_rfl) (by kernel_rfl) (fun _ _ _ h => h) (Or.inl ⟨by rfl, ?_⟩) hHeld ?_
                  rotate_left
                  · intro w hSw; (try dsimp only at hSw); go_simp; (try with_reducible rfl)
                  simp only [Act.put, List.setIfInBounds_toArray, List.set_cons_zero, List.set_cons_succ]
                  refine wpAnyH_take (i := 5) (oi := _) (v := ?_) rfl (by kernel_rfl) (by kernel_rfl) (by kernel_rfl) (fun _ _ _ h => h) (Or.inl ⟨by rfl, ?_⟩) hHeld ?_
                  rotate_left
                  · intro w hSw; (try dsimp only at hSw); go_simp; (try with_reducible rfl)
                  simp only [Act.put, List.setIfInBounds_toArray, List.set_cons_zero, List.set_cons_succ]
                  refine wpAnyH_take (i := 6) (oi := _) (v := ?_) rfl (by kernel_rfl) (by kernel_rfl) (by kernel_rfl) (fun _ _ _ h => h) (Or.inl ⟨by rfl, ?_⟩) hHeld ?_
                  rotate_left
                  · intro w hSw; (try dsimp only at hSw); go_simp; (try with_reducible rfl)
                  simp only [Act.put, List.setIfInBounds_toArray, List.set_cons_zero, List.set_cons_succ]
                  refine wpAnyH_take (i := 7) (oi := _) (v := ?_) rfl (by kernel_rfl) (by kernel_rfl) (by kernel_rfl) (fun _ _ _ h => h) (Or.inl ⟨by rfl, ?_⟩) hHeld ?_
                  rotate_left
                  · intro w hSw; (try dsimp only at hSw); go_simp; (try with_reducible rfl)
                  simp only [Act.put, List.setIfInBounds_toArray, List.set_cons_zero, List.set_cons_succ]
                  refine wpAnyH_take (i := 8) (oi := _) (v := ?_) rfl (by kernel_rfl) (by kernel_rfl) (by kernel_rfl) (fun _ _ _ h => h) (Or.inl ⟨by rfl, ?_⟩) hHeld ?_
                  rotate_left
                  · intro w hSw; (try dsimp only at hSw); go_simp; (try with_reducible rfl)
                  simp only [Act.put, List.setIfInBounds_toArray, List.set_cons_zero, List.set_cons_succ]
                  refine wpAnyH_take (i := 9) (oi := _) (v := ?_) rfl (by kernel_rfl) (by kernel_rfl) (by kernel_rfl) (fun _ _ _ h => h) (Or.inl ⟨by rfl, ?_⟩) hHeld ?_
                  rotate_left
                  · intro w hSw; (try dsimp only at hSw); go_simp; (try with_reducible rfl)
                  simp only [Act.put, List.setIfInBounds_toArray, List.set_cons_zero, List.set_cons_succ]
                  refine wpAnyH_take (i := 10) (oi := _) (v := ?_) rfl (by kernel_rfl) (by kernel_rfl) (by kernel_rfl) (fun _ _ _ h => h) (Or.inl ⟨by rfl, ?_⟩) hHeld ?_
                  rotate_left
                  · intro w hSw; (try dsimp only at hSw); go_simp; (try with_reducible rfl)
                  simp only [Act.put, List.setIfInBounds_toArray, List.set_cons_zero, List.set_cons_succ]
                  refine wpAnyH_ready (rs := [11]) (by kernel_rfl) (by simp) ?_
                  refine (AllReadyH.cons (o := _) rfl (fun K hK => ?_) AllReadyH.nil)
                  · skip
                    go_simp
                    refine hK.out _ _ ?_ (fun hHeld => ?_)
                    · first | exact HKg.out _ | exact HKg.out 1 | exact HKg.out 2 | exact HK3.out _ | exact HK3.out 2
                    clear hK K
                    (try simp only [Act.put, List.setIfInBounds_toArray, List.set_cons_zero, List.set_cons_succ])
                    refine wpAnyH_done (by kernel_rfl) ?_ _
                    have HR3 := Lib.hid (show RDiskAt ((wg.setCell ⟨a, p.2 * 2, none⟩ (.string (str T))).setCell ⟨a, p.2 * 2 + 1, none⟩ (.int .i64 m)) b F { S with files := cutAll bs (N.take (q + 1)) 0 S.files } (.slice (some ⟨a, 0, none⟩) S.files.length fc) nv (.slice la S.last.length lc) (.slice oa S.opn.length oc) pv from by rw [← HF3.out]; exact HS2.out.1)
                    clear e0 z0' e1 z1' n3 HK3 HF3 HS1 HS2 HKg HG hHeld
                    generalize (wg.setCell ⟨a, p.2 * 2, none⟩ (.string (str T))).setCell ⟨a, p.2 * 2 + 1, none⟩ (.int .i64 m) = wx at HR3 HN3 HW3 ⊢
                    clear c0 n1 f0 f1 hf2 hf hfs hft hfz hp HN hcut hts hTl y0 y1 z0 z1 HK HZ HWf hbox b0 b1 hcb b0' b1' hcb'
                    have HQ := Lib.hid (And.intro (HR3.out.below (below_drewN (Below.refl _ _) 1)) (And.intro (HN3.out.kept (G := fun _ => False) (Wr.of_below (below_drewN (Below.refl _ _) 1)) (fun _ _ h => h)) (HW3.out.drewN 1)))
                    clear HR3 HN3 HW3
                    go_wp2
                    go_roundw
                    case rel => exact ⟨q + 1, by omega, by go_num, HQ.out.1, HQ.out.2.1, HQ.out.2.2⟩
                    case measure => simp [intOf]; omega
                · obtain ⟨x, hx⟩ : ∃ x, bs[q % bs.length]? = some x := ⟨_, List.getElem?_eq_getElem (Nat.mod_lt _ (by omega))⟩
                  obtain ⟨gi, oi, ei, hgi, hci⟩ := (HIR.out.bounded.kept HWf.out.1 (fun x hx => HHG.out x hx.1)).at_ hx
                  subst ei
                  have hbI : (0 : Int) < (bs.length : Int) := by omega
                  have hbN : 0 < bs.length := by omega
                  have hb0 : ((bs.length : Int) == 0) = false := by rw [beq_eq_false_iff_ne]; omega
                  have hmod : (q : Int).tmod (bs.length : Int) = ((q % bs.length : Nat) : Int) := by rw [Int.tmod_eq_emod_of_nonneg (by omega)]; rfl
                  have hnx : max (0 : Int) (min x ((f.text.length : Int) - (f.sync : Int))) = (n : Int) := by
                    rw [hn]
                    unfold Pl.more
                    rw [if_neg (fun e => hbs (by rw [e]; rfl)), List.getD_eq_getElem?_getD, hx]
                    simp only [Option.getD_some]
                    omega
                  have hml : q % bs.length < bs.length := Nat.mod_lt _ (by omega)
                  obtain ⟨mi, hmi⟩ : ∃ mi, q % bs.length = mi := ⟨_, rfl⟩
                  rw [hmi] at hmod hml hci
                  have hmlI : (mi : Int) < (bs.length : Int) := by omega
                  have hmi0 : (0 : Int) ≤ (mi : Int) := by omega
                  have ci : ∀ n, (wf.drewN n).cell? ⟨gi, oi + mi, none⟩ = some (.int .i64 x) := fun n => hci
                  obtain ⟨T, hT⟩ : ∃ T, f.text.take (f.sync + n) = T := ⟨_, rfl⟩
                  rw [hT] at HN hcut hts hTl
                  clear hn hT hbs hx hmi hci
                  obtain ⟨y0, y1, -⟩ := HZ.out 0 (.string (str T)) (.int .i64 f.sync)
                  replace y0 : (wf.setCell ⟨wr.heap.size, 0, none⟩ (.string (str T))).cell? ⟨wr.heap.size, 0, none⟩ = some (.string (str T)) := y0
                  replace y1 : (wf.setCell ⟨wr.heap.size, 0, none⟩ (.string (str T))).frozen? ⟨wr.heap.size, 1, none⟩ = false := y1
                  by_cases hx0 : x < 0
                  · have hn0 : n = 0 := by omega
                    have hz1 : ¬ ((f.text.length : Int) - (f.sync : Int)) < 0 := by omega
                    subst hn0
                    simp only [Nat.add_zero] at HN hcut hts hTl
                    clear hnx htn hw2 hnsI
                    go_wp2_with fail
                    go_quiet (fail)
                    go_wp2_with fail
                    obtain ⟨m, hm⟩ : ∃ m, m = f.sync := ⟨_, rfl⟩
                    obtain ⟨wg, hwg⟩ : ∃ wg, ((wf.drewN (1 + nq)).setCell ⟨wr.heap.size, 0, none⟩ (.string (str T))).setCell ⟨wr.heap.size, 1, none⟩ (.int .i64 f.sync) = wg := ⟨_, rfl⟩
                    rw [hwg]
                    have HG := Lib.hid (show wg.heap[wr.heap.size]? = some (.cells #[.string (str T), .int .i64 m] 100 (0, 0)) ∧ Below wr.heap.size wr wg from by
                      rw [← hwg, hm]
                      exact ⟨(HZ.out _ _ _).2.2, ((below_drewN HWf.out.2.2 _).setCell (Nat.le_refl _) _).setCell (Nat.le_refl _) _⟩)
                    rw [← hm] at HN
                    clear hm
                    clear hwg
                    have HKg := Lib.hid (show ∀ n, (wg.drewN n).cell? ⟨b, 0, none⟩ = some (.slice (some ⟨a, 0, none⟩) S.files.length fc) ∧ (wg.drewN n).cell? ⟨gn, q * 2 + 1, none⟩ = some (.int .i64 p.2) ∧ (wg.drewN n).cell? ⟨wr.heap.size, 0, none⟩ = some (.string (str T)) ∧ (wg.drewN n).cell? ⟨wr.heap.size, 1, none⟩ = some (.int .i64 m) from fun n => by
                      obtain ⟨k0, k1, -, -⟩ := HK.out (wg.drewN n) (below_drewN HG.out.2 n)
                      have hb := HG.out.1
                      refine ⟨k0, k1, ?_, ?_⟩
                      · show wg.cell? _ = _
                        simp [World.cell?, hb]
                      · show wg.cell? _ = _
                        simp [World.cell?, hb])
                    have hdg := hd.out.below HG.out.2
                    have HS1 := Lib.hid (hdg.stored (p.2 * 2) (.string (str T)) ((cutAll bs (N.take q) 0 S.files).modify p.2 (fun x => ⟨T, x.sync⟩)) (List.length_modify ..) (rfRow_set0 hf2 rfl) (by show S.files.length = (cutAll bs (N.take q) 0 S.files).length; rw [cutAll_length]) (by omega))
                    have hf3 : ((cutAll bs (N.take q) 0 S.files).modify p.2 (fun x => ⟨T, x.sync⟩))[p.2]? = some ⟨T, f.sync⟩ := by rw [List.getElem?_modify, hf2]; simp
                    have HS2 := Lib.hid (HS1.out.1.stored (p.2 * 2 + 1) (.int .i64 m) (((cutAll bs (N.take q) 0 S.files).modify p.2 (fun x => ⟨T, x.sync⟩)).modify p.2 (fun x => ⟨x.text, m⟩)) (List.length_modify ..) (rfRow_set1 hf3 rfl) (by show S.files.length = (List.modify _ _ _).length; rw [List.length_modify, cutAll_length]) (by omega))
                    have e0 : wg.cell? ⟨a, p.2 * 2, none⟩ = some (.string (str f.text)) := (HG.out.2.cell (by exact ha)).trans f0
                    have z0' : wg.frozen? ⟨a, p.2 * 2, none⟩ = false := HS1.out.2.2
                    obtain ⟨a', ea, -, -, -, -, e1⟩ := HS1.out.1.file hf3
                    obtain rfl : a = a' := by simpa using ea
                    have z1' := HS2.out.2.2
                    obtain ⟨cur, hcur⟩ : ∃ cur, wg.heap[a]? = some (.cells cur 100 (0, 0)) := by
                      obtain ⟨g, c, e, -, -, hc, -⟩ := RowC.at_ hdg.files (by show 0 < (cutAll bs (N.take q) 0 S.files).length; rw [cutAll_length]; omega) (by omega)
                      simp only [Value.slice.injEq, Option.some.injEq, Addr.mk.injEq] at e
                      obtain ⟨⟨rfl, -⟩, -⟩ := e
                      exact hc
                    have hng := hn.out.kept (G := fun _ => False) (Wr.of_below HG.out.2) (fun _ _ h => h)
                    have HN3 := Lib.hid ((hng.fileSet hcur (p.2 * 2) (.string (str T))).fileSet (heap_setCell_same hcur) (p.2 * 2 + 1) (.int .i64 m))
                    obtain ⟨gn', en, -, -, -, n3⟩ := HN3.out.at_ hp
                    obtain rfl : gn = gn' := by simpa using en
                    have hae : wr.heap.size ≠ a := by omega
                    have HK3 := Lib.hid (show ∀ n, ((((wg.setCell ⟨a, p.2 * 2, none⟩ (.string (str T))).setCell ⟨a, p.2 * 2 + 1, none⟩ (.int .i64 m))).drewN n).cell? ⟨b, 0, none⟩ = some (.slice (some ⟨a, 0, none⟩) S.files.length fc) ∧ ((((wg.setCell ⟨a, p.2 * 2, none⟩ (.string (str T))).setCell ⟨a, p.2 * 2 + 1, none⟩ (.int .i64 m))).drewN n).cell? ⟨gn, q * 2 + 1, none⟩ = some (.int .i64 p.2) ∧ ((((wg.setCell ⟨a, p.2 * 2, none⟩ (.string (str T))).setCell ⟨a, p.2 * 2 + 1, none⟩ (.int .i64 m))).drewN n).cell? ⟨wr.heap.size, 0, none⟩ = some (.string (str T)) ∧ ((((wg.setCell ⟨a, p.2 * 2, none⟩ (.string (str T))).setCell ⟨a, p.2 * 2 + 1, none⟩ (.int .i64 m))).drewN n).cell? ⟨wr.heap.size, 1, none⟩ = some (.int .i64 m) from fun n => by
                      have hb : ((wg.setCell ⟨a, p.2 * 2, none⟩ (.string (str T))).setCell ⟨a, p.2 * 2 + 1, none⟩ (.int .i64 m)).heap[wr.heap.size]? = some (.cells #[.string (str T), .int .i64 m] 100 (0, 0)) := by
                        rw [Below.heap_setCell _ _ _ _ hae, Below.heap_setCell _ _ _ _ hae]; exact HG.out.1
                      refine ⟨HS2.out.1.cells.1, n3, ?_, ?_⟩
                      · show World.cell? _ _ = _
                        simp [World.cell?, hb]
                      · show World.cell? _ _ = _
                        simp [World.cell?, hb])
                    have HF3 := Lib.hid (show (((cutAll bs (N.take q) 0 S.files).modify p.2 (fun x => ⟨T, x.sync⟩)).modify p.2 (fun x => ⟨x.text, m⟩)) = cutAll bs (N.take (q + 1)) 0 S.files from by
                      rw [cutAll_take bs hp, modify_two]
                      exact modify_like hf2 HN.out.symm)
                    have HW3 := Lib.hid (((hw.out.trans (Wr.of_below HG.out.2) (Grew.refl _ _)).setCell (p := ⟨a, p.2 * 2, none⟩) HS1.out.2.1 (.string (str T))).setCell (p := ⟨a, p.2 * 2 + 1, none⟩) HS2.out.2.1 (.int .i64 m))
                    clear hdg hf3 ea hcur hng en
                    refine wp_region_held_drew (S := (fun W => W.cell? ⟨b, 0, none⟩ = some (.slice (some ⟨a, 0, none⟩) S.files.length fc) ∧ W.cell? ⟨gn, q * 2 + 1, none⟩ = some (.int .i64 p.2) ∧ W.cell? ⟨wr.heap.size, 0, none⟩ = some (.string (str T)) ∧ W.cell? ⟨wr.heap.size, 1, none⟩ = some (.int .i64 m))) (by kernel_rfl) ?_ (fun hHeld => ?_)
                    · first | exact HKg.out _ | exact HKg.out 1 | exact HKg.out 2 | exact HK3.out _ | exact HK3.out 2
                    refine wpAnyH_take (i := 0) (oi := _) (v := ?_) rfl (by kernel_rfl) (by kernel_rfl) (by kernel_rfl) (fun _ _ _ h => h) (Or.inl ⟨by rfl, ?_⟩) hHeld ?_
                    rotate_left
                    · intro w hSw; (try dsimp only at hSw); go_simp; (try with_reducible rfl)
                    simp only [Act.put, List.setIfInBounds_toArray, List.set_cons_zero, List.set_cons_succ]
                    refine wpAnyH_take (i := 1) (oi := _) (v := ?_) rfl (by kernel_rfl) (by kernel_rfl) (by kernel_rfl) (fun _ _ _ h => h) (Or.inl ⟨by rfl, ?_⟩) hHeld ?_
                    rotate_left
                    · intro w hSw; (try dsimp only at hSw); go_simp; (try with_reducible rfl)
                    simp only [Act.put, List.setIfInBounds_toArray, List.set_cons_zero, List.set_cons_succ]
                    refine wpAnyH_take (i := 2) (oi := _) (v := ?_) rfl (by kernel_rfl) (by kernel_rfl) (by kernel_rfl) (fun _ _ _ h => h) (Or.inl ⟨by rfl, ?_⟩) hHeld ?_
                    rotate_left
                    · intro w hSw; (try dsimp only at hSw); go_simp; (try with_reducible rfl)
                    simp only [Act.put, List.setIfInBounds_toArray, List.set_cons_zero, List.set_cons_succ]
                    refine wpAnyH_take (i := 3) (oi := _) (v := ?_) rfl (by kernel_rfl) (by kernel_rfl) (by kernel_rfl) (fun _ _ _ h => h) (Or.inl ⟨by rfl, ?_⟩) hHeld ?_
                    rotate_left
                    · intro w hSw; (try dsimp only at hSw); go_simp; (try with_reducible rfl)
                    simp only [Act.put, List.setIfInBounds_toArray, List.set_cons_zero, List.set_cons_succ]
                    refine wpAnyH_take (i := 4) (oi := _) (v := ?_) rfl (by kernel_rfl) (by kernel_rfl) (by kernel_rfl) (fun _ _ _ h => h) (Or.inl ⟨by rfl, ?_⟩) hHeld ?_
                    rotate_left
                    · intro w hSw; (try dsimp only at hSw); go_simp; (try with_reducible rfl)
                    simp only [Act.put, List.setIfInBounds_toArray, List.set_cons_zero, List.set_cons_succ]
                    refine wpAnyH_take (i := 5) (oi := _) (v := ?_) rfl (by kernel_rfl) (by kernel_rfl) (by kernel_rfl) (fun _ _ _ h => h) (Or.inl ⟨by rfl, ?_⟩) hHeld ?_
                    rotate_left
                    · intro w hSw; (try dsimp only at hSw); go_simp; (try with_reducible rfl)
                    simp only [Act.put, List.setIfInBounds_toArray, List.set_cons_zero, List.set_cons_succ]
                    refine wpAnyH_take (i := 6) (oi := _) (v := ?_) rfl (by kernel_rfl) (by kernel_rfl) (by kernel_rfl) (fun _ _ _ h => h) (Or.inl ⟨by rfl, ?_⟩) hHeld ?_
                    rotate_left
                    · intro w hSw; (try dsimp only at hSw); go_simp; (try with_reducible rfl)
                    simp only [Act.put, List.setIfInBounds_toArray, List.set_cons_zero, List.set_cons_succ]
                    refine wpAnyH_take (i := 7) (oi := _) (v := ?_) rfl (by kernel_rfl) (by kernel_rfl) (by kernel_rfl) (fun _ _ _ h => h) (Or.inl ⟨by rfl, ?_⟩) hHeld ?_
                    rotate_left
                    · intro w hSw; (try dsimp only at hSw); go_simp; (try with_reducible rfl)
                    simp only [Act.put, List.setIfInBounds_toArray, List.set_cons_zero, List.set_cons_succ]
                    refine wpAnyH_take (i := 8) (oi := _) (v := ?_) rfl (by kernel_rfl) (by kernel_rfl) (by kernel_rfl) (fun _ _ _ h => h) (Or.inl ⟨by rfl, ?_⟩) hHeld ?_
                    rotate_left
                    · intro w hSw; (try dsimp only at hSw); go_simp; (try with_reducible rfl)
                    simp only [Act.put, List.setIfInBounds_toArray, List.set_cons_zero, List.set_cons_succ]
                    refine wpAnyH_take (i := 9) (oi := _) (v := ?_) rfl (by kernel_rfl) (by kernel_rfl) (by kernel_rfl) (fun _ _ _ h => h) (Or.inl ⟨by rfl, ?_⟩) hHeld ?_
                    rotate_left
                    · intro w hSw; (try dsimp only at hSw); go_simp; (try with_reducible rfl)
                    simp only [Act.put, List.setIfInBounds_toArray, List.set_cons_zero, List.set_cons_succ]
                    refine wpAnyH_take (i := 10) (oi := _) (v := ?_) rfl (by kernel_rfl) (by kernel_rfl) (by kernel_rfl) (fun _ _ _ h => h) (Or.inl ⟨by rfl, ?_⟩) hHeld ?_
                    rotate_left
                    · intro w hSw; (try dsimp only at hSw); go_simp; (try with_reducible rfl)
                    simp only [Act.put, List.setIfInBounds_toArray, List.set_cons_zero, List.set_cons_succ]
                    refine wpAnyH_ready (rs := [11]) (by kernel_rfl) (by simp) ?_
                    refine (AllReadyH.cons (o := _) rfl (fun K hK => ?_) AllReadyH.nil)
                    · skip
                      go_simp
                      refine hK.out _ _ ?_ (fun hHeld => ?_)
                      · first | exact HKg.out _ | exact HKg.out 1 | exact HKg.out 2 | exact HK3.out _ | exact HK3.out 2
                      clear hK K
                      (try simp only [Act.put, List.setIfInBounds_toArray, List.set_cons_zero, List.set_cons_succ])
                      refine wpAnyH_done (by kernel_rfl) ?_ _
                      have HR3 := Lib.hid (show RDiskAt ((wg.setCell ⟨a, p.2 * 2, none⟩ (.string (str T))).setCell ⟨a, p.2 * 2 + 1, none⟩ (.int .i64 m)) b F { S with files := cutAll bs (N.take (q + 1)) 0 S.files } (.slice (some ⟨a, 0, none⟩) S.files.length fc) nv (.slice la S.last.length lc) (.slice oa S.opn.length oc) pv from by rw [← HF3.out]; exact HS2.out.1)
                      clear e0 z0' e1 z1' n3 HK3 HF3 HS1 HS2 HKg HG hHeld
                      generalize (wg.setCell ⟨a, p.2 * 2, none⟩ (.string (str T))).setCell ⟨a, p.2 * 2 + 1, none⟩ (.int .i64 m) = wx at HR3 HN3 HW3 ⊢
                      clear c0 n1 f0 f1 hf2 hf hfs hft hfz hp HN hcut hts hTl y0 y1 z0 z1 HK HZ HWf hbox b0 b1 hcb b0' b1' hcb'
                      have HQ := Lib.hid (And.intro (HR3.out.below (below_drewN (Below.refl _ _) 1)) (And.intro (HN3.out.kept (G := fun _ => False) (Wr.of_below (below_drewN (Below.refl _ _) 1)) (fun _ _ h => h)) (HW3.out.drewN 1)))
                      clear HR3 HN3 HW3
                      go_wp2
                      go_roundw
                      case rel => exact ⟨q + 1, by omega, by go_num, HQ.out.1, HQ.out.2.1, HQ.out.2.2⟩
                      case measure => simp [intOf]; omega
                  have hx0' : (0 : Int) ≤ x := by omega
                  by_cases hx1 : ((f.text.length : Int) - (f.sync : Int)) < x
                  · have hnI : (n : Int) < x := by omega
                    replace hw1 : IntKind.i64.wrap ((f.text.length : Int) - (f.sync : Int)) = (n : Int) := by rw [hw1]; omega
                    clear hnx hx1
                    skip
                    obtain ⟨m, hm⟩ : ∃ m, f.sync + n = m := ⟨_, rfl⟩
                    replace hw2 : IntKind.i64.wrap ((f.sync : Int) + (n : Int)) = (m : Int) := by rw [hw2]; omega
                    have hmI : (m : Int) ≤ (f.text.length : Int) := by omega
                    rw [hm] at HN hcut hts hTl
                    clear htn hnsI hm hns hfsI
                    go_wp2_with fail
                    go_quiet (fail)
                    go_wp2_with fail
                    obtain ⟨wg, hwg⟩ : ∃ wg, ((wf.drewN (1 + nq)).setCell ⟨wr.heap.size, 0, none⟩ (.string (str T))).setCell ⟨wr.heap.size, 1, none⟩ (.int .i64 m) = wg := ⟨_, rfl⟩
                    rw [hwg]
                    have HG := Lib.hid (show wg.heap[wr.heap.size]? = some (.cells #[.string (str T), .int .i64 m] 100 (0, 0)) ∧ Below wr.heap.size wr wg from by
                      rw [← hwg]
                      exact ⟨(HZ.out _ _ _).2.2, ((below_drewN HWf.out.2.2 _).setCell (Nat.le_refl _) _).setCell (Nat.le_refl _) _⟩)
                    clear hwg
                    have HKg := Lib.hid (show ∀ n, (wg.drewN n).cell? ⟨b, 0, none⟩ = some (.slice (some ⟨a, 0, none⟩) S.files.length fc) ∧ (wg.drewN n).cell? ⟨gn, q * 2 + 1, none⟩ = some (.int .i64 p.2) ∧ (wg.drewN n).cell? ⟨wr.heap.size, 0, none⟩ = some (.string (str T)) ∧ (wg.drewN n).cell? ⟨wr.heap.size, 1, none⟩ = some (.int .i64 m) from fun n => by
                      obtain ⟨k0, k1, -, -⟩ := HK.out (wg.drewN n) (below_drewN HG.out.2 n)
                      have hb := HG.out.1
                      refine ⟨k0, k1, ?_, ?_⟩
                      · show wg.cell? _ = _
                        simp [World.cell?, hb]
                      · show wg.cell? _ = _
                        simp [World.cell?, hb])
                    have hdg := hd.out.below HG.out.2
                    have HS1 := Lib.hid (hdg.stored (p.2 * 2) (.string (str T)) ((cutAll bs (N.take q) 0 S.files).modify p.2 (fun x => ⟨T, x.sync⟩)) (List.length_modify ..) (rfRow_set0 hf2 rfl) (by show S.files.length = (cutAll bs (N.take q) 0 S.files).length; rw [cutAll_length]) (by omega))
                    have hf3 : ((cutAll bs (N.take q) 0 S.files).modify p.2 (fun x => ⟨T, x.sync⟩))[p.2]? = some ⟨T, f.sync⟩ := by rw [List.getElem?_modify, hf2]; simp
                    have HS2 := Lib.hid (HS1.out.1.stored (p.2 * 2 + 1) (.int .i64 m) (((cutAll bs (N.take q) 0 S.files).modify p.2 (fun x => ⟨T, x.sync⟩)).modify p.2 (fun x => ⟨x.text, m⟩)) (List.length_modify ..) (rfRow_set1 hf3 rfl) (by show S.files.length = (List.modify _ _ _).length; rw [List.length_modify, cutAll_length]) (by omega))
                    have e0 : wg.cell? ⟨a, p.2 * 2, none⟩ = some (.string (str f.text)) := (HG.out.2.cell (by exact ha)).trans f0
                    have z0' : wg.frozen? ⟨a, p.2 * 2, none⟩ = false := HS1.out.2.2
                    obtain ⟨a', ea, -, -, -, -, e1⟩ := HS1.out.1.file hf3
                    obtain rfl : a = a' := by simpa using ea
                    have z1' := HS2.out.2.2
                    obtain ⟨cur, hcur⟩ : ∃ cur, wg.heap[a]? = some (.cells cur 100 (0, 0)) := by
                      obtain ⟨g, c, e, -, -, hc, -⟩ := RowC.at_ hdg.files (by show 0 < (cutAll bs (N.take q) 0 S.files).length; rw [cutAll_length]; omega) (by omega)
                      simp only [Value.slice.injEq, Option.some.injEq, Addr.mk.injEq] at e
                      obtain ⟨⟨rfl, -⟩, -⟩ := e
                      exact hc
                    have hng := hn.out.kept (G := fun _ => False) (Wr.of_below HG.out.2) (fun _ _ h => h)
                    have HN3 := Lib.hid ((hng.fileSet hcur (p.2 * 2) (.string (str T))).fileSet (heap_setCell_same hcur) (p.2 * 2 + 1) (.int .i64 m))
                    obtain ⟨gn', en, -, -, -, n3⟩ := HN3.out.at_ hp
                    obtain rfl : gn = gn' := by simpa using en
                    have hae : wr.heap.size ≠ a := by omega
                    have HK3 := Lib.hid (show ∀ n, ((((wg.setCell ⟨a, p.2 * 2, none⟩ (.string (str T))).setCell ⟨a, p.2 * 2 + 1, none⟩ (.int .i64 m))).drewN n).cell? ⟨b, 0, none⟩ = some (.slice (some ⟨a, 0, none⟩) S.files.length fc) ∧ ((((wg.setCell ⟨a, p.2 * 2, none⟩ (.string (str T))).setCell ⟨a, p.2 * 2 + 1, none⟩ (.int .i64 m))).drewN n).cell? ⟨gn, q * 2 + 1, none⟩ = some (.int .i64 p.2) ∧ ((((wg.setCell ⟨a, p.2 * 2, none⟩ (.string (str T))).setCell ⟨a, p.2 * 2 + 1, none⟩ (.int .i64 m))).drewN n).cell? ⟨wr.heap.size, 0, none⟩ = some (.string (str T)) ∧ ((((wg.setCell ⟨a, p.2 * 2, none⟩ (.string (str T))).setCell ⟨a, p.2 * 2 + 1, none⟩ (.int .i64 m))).drewN n).cell? ⟨wr.heap.size, 1, none⟩ = some (.int .i64 m) from fun n => by
                      have hb : ((wg.setCell ⟨a, p.2 * 2, none⟩ (.string (str T))).setCell ⟨a, p.2 * 2 + 1, none⟩ (.int .i64 m)).heap[wr.heap.size]? = some (.cells #[.string (str T), .int .i64 m] 100 (0, 0)) := by
                        rw [Below.heap_setCell _ _ _ _ hae, Below.heap_setCell _ _ _ _ hae]; exact HG.out.1
                      refine ⟨HS2.out.1.cells.1, n3, ?_, ?_⟩
                      · show World.cell? _ _ = _
                        simp [World.cell?, hb]
                      · show World.cell? _ _ = _
                        simp [World.cell?, hb])
                    have HF3 := Lib.hid (show (((cutAll bs (N.take q) 0 S.files).modify p.2 (fun x => ⟨T, x.sync⟩)).modify p.2 (fun x => ⟨x.text, m⟩)) = cutAll bs (N.take (q + 1)) 0 S.files from by
                      rw [cutAll_take bs hp, modify_two]
                      exact modify_like hf2 HN.out.symm)
                    have HW3 := Lib.hid (((hw.out.trans (Wr.of_below HG.out.2) (Grew.refl _ _)).setCell (p := ⟨a, p.2 * 2, none⟩) HS1.out.2.1 (.string (str T))).setCell (p := ⟨a, p.2 * 2 + 1, none⟩) HS2.out.2.1 (.int .i64 m))
                    clear hdg hf3 ea hcur hng en
                    refine wp_region_held_drew (S := (fun W => W.cell? ⟨b, 0, none⟩ = some (.slice (some ⟨a, 0, none⟩) S.files.length fc) ∧ W.cell? ⟨gn, q * 2 + 1, none⟩ = some (.int .i64 p.2) ∧ W.cell? ⟨wr.heap.size, 0, none⟩ = some (.string (str T)) ∧ W.cell? ⟨wr.heap.size, 1, none⟩ = some (.int .i64 m))) (by kernel_rfl) ?_ (fun hHeld => ?_)
                    · first | exact HKg.out _ | exact HKg.out 1 | exact HKg.out 2 | exact HK3.out _ | exact HK3.out 2
                    refine wpAnyH_take (i := 0) (oi := _) (v := ?_) rfl (by kernel_rfl) (by kernel_rfl) (by kernel_rfl) (fun _ _ _ h => h) (Or.inl ⟨by rfl, ?_⟩) hHeld ?_
                    rotate_left
                    · intro w hSw; (try dsimp only at hSw); go_simp; (try with_reducible rfl)
                    simp only [Act.put, List.setIfInBounds_toArray, List.set_cons_zero, List.set_cons_succ]
                    refine wpAnyH_take (i := 1) (oi := _) (v := ?_) rfl (by kernel_rfl) (by kernel_rfl) (by kernel_rfl) (fun _ _ _ h => h) (Or.inl ⟨by rfl, ?_⟩) hHeld ?_
                    rotate_left
                    · intro w hSw; (try dsimp only at hSw); go_simp; (try with_reducible rfl)
                    simp only [Act.put, List.setIfInBounds_toArray, List.set_cons_zero, List.set_cons_succ]
                    refine wpAnyH_take (i := 2) (oi := _) (v := ?_) rfl (by kernel_rfl) (by kernel_rfl) (by kernel_rfl) (fun _ _ _ h => h) (Or.inl ⟨by rfl, ?_⟩) hHeld ?_
                    rotate_left
                    · intro w hSw; (try dsimp only at hSw); go_simp; (try with_reducible rfl)
                    simp only [Act.put, List.setIfInBounds_toArray, List.set_cons_zero, List.set_cons_succ]
                    refine wpAnyH_take (i := 3) (oi := _) (v := ?_) rfl (by kernel_rfl) (by kernel_rfl) (by kernel_rfl) (fun _ _ _ h => h) (Or.inl ⟨by rfl, ?_⟩) hHeld ?_
                    rotate_left
                    · intro w hSw; (try dsimp only at hSw); go_simp; (try with_reducible rfl)
                    simp only [Act.put, List.setIfInBounds_toArray, List.set_cons_zero, List.set_cons_succ]
                    refine wpAnyH_take (i := 4) (oi := _) (v := ?_) rfl (by kernel_rfl) (by kernel_rfl) (by kernel_rfl) (fun _ _ _ h => h) (Or.inl ⟨by rfl, ?_⟩) hHeld ?_
                    rotate_left
                    · intro w hSw; (try dsimp only at hSw); go_simp; (try with_reducible rfl)
                    simp only [Act.put, List.setIfInBounds_toArray, List.set_cons_zero, List.set_cons_succ]
                    refine wpAnyH_take (i := 5) (oi := _) (v := ?_) rfl (by kernel_rfl) (by kernel_rfl) (by kernel_rfl) (fun _ _ _ h => h) (Or.inl ⟨by rfl, ?_⟩) hHeld ?_
                    rotate_left
                    · intro w hSw; (try dsimp only at hSw); go_simp; (try with_reducible rfl)
                    simp only [Act.put, List.setIfInBounds_toArray, List.set_cons_zero, List.set_cons_succ]
                    refine wpAnyH_take (i := 6) (oi := _) (v := ?_) rfl (by kernel_rfl) (by kernel_rfl) (by kernel_rfl) (fun _ _ _ h => h) (Or.inl ⟨by rfl, ?_⟩) hHeld ?_
                    rotate_left
                    · intro w hSw; (try dsimp only at hSw); go_simp; (try with_reducible rfl)
                    simp only [Act.put, List.setIfInBounds_toArray, List.set_cons_zero, List.set_cons_succ]
                    refine wpAnyH_take (i := 7) (oi := _) (v := ?_) rfl (by kernel_rfl) (by kernel_rfl) (by kernel_rfl) (fun _ _ _ h => h) (Or.inl ⟨by rfl, ?_⟩) hHeld ?_
                    rotate_left
                    · intro w hSw; (try dsimp only at hSw); go_simp; (try with_reducible rfl)
                    simp only [Act.put, List.setIfInBounds_toArray, List.set_cons_zero, List.set_cons_succ]
                    refine wpAnyH_take (i := 8) (oi := _) (v := ?_) rfl (by kernel_rfl) (by kernel_rfl) (by kernel_rfl) (fun _ _ _ h => h) (Or.inl ⟨by rfl, ?_⟩) hHeld ?_
                    rotate_left
                    · intro w hSw; (try dsimp only at hSw); go_simp; (try with_reducible rfl)
                    simp only [Act.put, List.setIfInBounds_toArray, List.set_cons_zero, List.set_cons_succ]
                    refine wpAnyH_take (i := 9) (oi := _) (v := ?_) rfl (by kernel_rfl) (by kernel_rfl) (by kernel_rfl) (fun _ _ _ h => h) (Or.inl ⟨by rfl, ?_⟩) hHeld ?_
                    rotate_left
                    · intro w hSw; (try dsimp only at hSw); go_simp; (try with_reducible rfl)
                    simp only [Act.put, List.setIfInBounds_toArray, List.set_cons_zero, List.set_cons_succ]
                    refine wpAnyH_take (i := 10) (oi := _) (v := ?_) rfl (by kernel_rfl) (by kernel_rfl) (by kernel_rfl) (fun _ _ _ h => h) (Or.inl ⟨by rfl, ?_⟩) hHeld ?_
                    rotate_left
                    · intro w hSw; (try dsimp only at hSw); go_simp; (try with_reducible rfl)
                    simp only [Act.put, List.setIfInBounds_toArray, List.set_cons_zero, List.set_cons_succ]
                    refine wpAnyH_ready (rs := [11]) (by kernel_rfl) (by simp) ?_
                    refine (AllReadyH.cons (o := _) rfl (fun K hK => ?_) AllReadyH.nil)
                    · skip
                      go_simp
                      refine hK.out _ _ ?_ (fun hHeld => ?_)
                      · first | exact HKg.out _ | exact HKg.out 1 | exact HKg.out 2 | exact HK3.out _ | exact HK3.out 2
                      clear hK K
                      (try simp only [Act.put, List.setIfInBounds_toArray, List.set_cons_zero, List.set_cons_succ])
                      refine wpAnyH_done (by kernel_rfl) ?_ _
                      have HR3 := Lib.hid (show RDiskAt ((wg.setCell ⟨a, p.2 * 2, none⟩ (.string (str T))).setCell ⟨a, p.2 * 2 + 1, none⟩ (.int .i64 m)) b F { S with files := cutAll bs (N.take (q + 1)) 0 S.files } (.slice (some ⟨a, 0, none⟩) S.files.length fc) nv (.slice la S.last.length lc) (.slice oa S.opn.length oc) pv from by rw [← HF3.out]; exact HS2.out.1)
                      clear e0 z0' e1 z1' n3 HK3 HF3 HS1 HS2 HKg HG hHeld
                      generalize (wg.setCell ⟨a, p.2 * 2, none⟩ (.string (str T))).setCell ⟨a, p.2 * 2 + 1, none⟩ (.int .i64 m) = wx at HR3 HN3 HW3 ⊢
                      clear c0 n1 f0 f1 hf2 hf hfs hft hfz hp HN hcut hts hTl y0 y1 z0 z1 HK HZ HWf hbox b0 b1 hcb b0' b1' hcb'
                      have HQ := Lib.hid (And.intro (HR3.out.below (below_drewN (Below.refl _ _) 1)) (And.intro (HN3.out.kept (G := fun _ => False) (Wr.of_below (below_drewN (Below.refl _ _) 1)) (fun _ _ h => h)) (HW3.out.drewN 1)))
                      clear HR3 HN3 HW3
                      go_wp2
                      go_roundw
                      case rel => exact ⟨q + 1, by omega, by go_num, HQ.out.1, HQ.out.2.1, HQ.out.2.2⟩
                      case measure => simp [intOf]; omega
                  · obtain rfl : x = (n : Int) := by omega
                    clear hnx
                    skip
                    obtain ⟨m, hm⟩ : ∃ m, f.sync + n = m := ⟨_, rfl⟩
                    replace hw2 : IntKind.i64.wrap ((f.sync : Int) + (n : Int)) = (m : Int) := by rw [hw2]; omega
                    have hmI : (m : Int) ≤ (f.text.length : Int) := by omega
                    rw [hm] at HN hcut hts hTl
                    clear htn hnsI hm hns hfsI
                    go_wp2_with fail
                    go_quiet (fail)
                    go_wp2_with fail
                    obtain ⟨wg, hwg⟩ : ∃ wg, ((wf.drewN (1 + nq)).setCell ⟨wr.heap.size, 0, none⟩ (.string (str T))).setCell ⟨wr.heap.size, 1, none⟩ (.int .i64 m) = wg := ⟨_, rfl⟩
                    rw [hwg]
                    have HG := Lib.hid (show wg.heap[wr.heap.size]? = some (.cells #[.string (str T), .int .i64 m] 100 (0, 0)) ∧ Below wr.heap.size wr wg from by
                      rw [← hwg]
                      exact ⟨(HZ.out _ _ _).2.2, ((below_drewN HWf.out.2.2 _).setCell (Nat.le_refl _) _).setCell (Nat.le_refl _) _⟩)
                    clear hwg
                    have HKg := Lib.hid (show ∀ n, (wg.drewN n).cell? ⟨b, 0, none⟩ = some (.slice (some ⟨a, 0, none⟩) S.files.length fc) ∧ (wg.drewN n).cell? ⟨gn, q * 2 + 1, none⟩ = some (.int .i64 p.2) ∧ (wg.drewN n).cell? ⟨wr.heap.size, 0, none⟩ = some (.string (str T)) ∧ (wg.drewN n).cell? ⟨wr.heap.size, 1, none⟩ = some (.int .i64 m) from fun n => by
                      obtain ⟨k0, k1, -, -⟩ := HK.out (wg.drewN n) (below_drewN HG.out.2 n)
                      have hb := HG.out.1
                      refine ⟨k0, k1, ?_, ?_⟩
                      · show wg.cell? _ = _
                        simp [World.cell?, hb]
                      · show wg.cell? _ = _
                        simp [World.cell?, hb])
                    have hdg := hd.out.below HG.out.2
                    have HS1 := Lib.hid (hdg.stored (p.2 * 2) (.string (str T)) ((cutAll bs (N.take q) 0 S.files).modify p.2 (fun x => ⟨T, x.sync⟩)) (List.length_modify ..) (rfRow_set0 hf2 rfl) (by show S.files.length = (cutAll bs (N.take q) 0 S.files).length; rw [cutAll_length]) (by omega))
                    have hf3 : ((cutAll bs (N.take q) 0 S.files).modify p.2 (fun x => ⟨T, x.sync⟩))[p.2]? = some ⟨T, f.sync⟩ := by rw [List.getElem?_modify, hf2]; simp
                    have HS2 := Lib.hid (HS1.out.1.stored (p.2 * 2 + 1) (.int .i64 m) (((cutAll bs (N.take q) 0 S.files).modify p.2 (fun x => ⟨T, x.sync⟩)).modify p.2 (fun x => ⟨x.text, m⟩)) (List.length_modify ..) (rfRow_set1 hf3 rfl) (by show S.files.length = (List.modify _ _ _).length; rw [List.length_modify, cutAll_length]) (by omega))
                    have e0 : wg.cell? ⟨a, p.2 * 2, none⟩ = some (.string (str f.text)) := (HG.out.2.cell (by exact ha)).trans f0
                    have z0' : wg.frozen? ⟨a, p.2 * 2, none⟩ = false := HS1.out.2.2
                    obtain ⟨a', ea, -, -, -, -, e1⟩ := HS1.out.1.file hf3
                    obtain rfl : a = a' := by simpa using ea
                    have z1' := HS2.out.2.2
                    obtain ⟨cur, hcur⟩ : ∃ cur, wg.heap[a]? = some (.cells cur 100 (0, 0)) := by
                      obtain ⟨g, c, e, -, -, hc, -⟩ := RowC.at_ hdg.files (by show 0 < (cutAll bs (N.take q) 0 S.files).length; rw [cutAll_length]; omega) (by omega)
                      simp only [Value.slice.injEq, Option.some.injEq, Addr.mk.injEq] at e
                      obtain ⟨⟨rfl, -⟩, -⟩ := e
                      exact hc
                    have hng := hn.out.kept (G := fun _ => False) (Wr.of_below HG.out.2) (fun _ _ h => h)
                    have HN3 := Lib.hid ((hng.fileSet hcur (p.2 * 2) (.string (str T))).fileSet (heap_setCell_same hcur) (p.2 * 2 + 1) (.int .i64 m))
                    obtain ⟨gn', en, -, -, -, n3⟩ := HN3.out.at_ hp
                    obtain rfl : gn = gn' := by simpa using en
                    have hae : wr.heap.size ≠ a := by omega
                    have HK3 := Lib.hid (show ∀ n, ((((wg.setCell ⟨a, p.2 * 2, none⟩ (.string (str T))).setCell ⟨a, p.2 * 2 + 1, none⟩ (.int .i64 m))).drewN n).cell? ⟨b, 0, none⟩ = some (.slice (some ⟨a, 0, none⟩) S.files.length fc) ∧ ((((wg.setCell ⟨a, p.2 * 2, none⟩ (.string (str T))).setCell ⟨a, p.2 * 2 + 1, none⟩ (.int .i64 m))).drewN n).cell? ⟨gn, q * 2 + 1, none⟩ = some (.int .i64 p.2) ∧ ((((wg.setCell ⟨a, p.2 * 2, none⟩ (.string (str T))).setCell ⟨a, p.2 * 2 + 1, none⟩ (.int .i64 m))).drewN n).cell? ⟨wr.heap.size, 0, none⟩ = some (.string (str T)) ∧ ((((wg.setCell ⟨a, p.2 * 2, none⟩ (.string (str T))).setCell ⟨a, p.2 * 2 + 1, none⟩ (.int .i64 m))).drewN n).cell? ⟨wr.heap.size, 1, none⟩ = some (.int .i64 m) from fun n => by
                      have hb : ((wg.setCell ⟨a, p.2 * 2, none⟩ (.string (str T))).setCell ⟨a, p.2 * 2 + 1, none⟩ (.int .i64 m)).heap[wr.heap.size]? = some (.cells #[.string (str T), .int .i64 m] 100 (0, 0)) := by
                        rw [Below.heap_setCell _ _ _ _ hae, Below.heap_setCell _ _ _ _ hae]; exact HG.out.1
                      refine ⟨HS2.out.1.cells.1, n3, ?_, ?_⟩
                      · show World.cell? _ _ = _
                        simp [World.cell?, hb]
                      · show World.cell? _ _ = _
                        simp [World.cell?, hb])
                    have HF3 := Lib.hid (show (((cutAll bs (N.take q) 0 S.files).modify p.2 (fun x => ⟨T, x.sync⟩)).modify p.2 (fun x => ⟨x.text, m⟩)) = cutAll bs (N.take (q + 1)) 0 S.files from by
                      rw [cutAll_take bs hp, modify_two]
                      exact modify_like hf2 HN.out.symm)
                    have HW3 := Lib.hid (((hw.out.trans (Wr.of_below HG.out.2) (Grew.refl _ _)).setCell (p := ⟨a, p.2 * 2, none⟩) HS1.out.2.1 (.string (str T))).setCell (p := ⟨a, p.2 * 2 + 1, none⟩) HS2.out.2.1 (.int .i64 m))
                    clear hdg hf3 ea hcur hng en
                    refine wp_region_held_drew (S := (fun W => W.cell? ⟨b, 0, none⟩ = some (.slice (some ⟨a, 0, none⟩) S.files.length fc) ∧ W.cell? ⟨gn, q * 2 + 1, none⟩ = some (.int .i64 p.2) ∧ W.cell? ⟨wr.heap.size, 0, none⟩ = some (.string (str T)) ∧ W.cell? ⟨wr.heap.size, 1, none⟩ = some (.int .i64 m))) (by kernel_rfl) ?_ (fun hHeld => ?_)
                    · first | exact HKg.out _ | exact HKg.out 1 | exact HKg.out 2 | exact HK3.out _ | exact HK3.out 2
                    refine wpAnyH_take (i := 0) (oi := _) (v := ?_) rfl (by kernel_rfl) (by kernel_rfl) (by kernel_rfl) (fun _ _ _ h => h) (Or.inl ⟨by rfl, ?_⟩) hHeld ?_
                    rotate_left
                    · intro w hSw; (try dsimp only at hSw); go_simp; (try with_reducible rfl)
                    simp only [Act.put, List.setIfInBounds_toArray, List.set_cons_zero, List.set_cons_succ]
                    refine wpAnyH_take (i := 1) (oi := _) (v := ?_) rfl (by kernel_rfl) (by kernel_rfl) (by kernel_rfl) (fun _ _ _ h => h) (Or.inl ⟨by rfl, ?_⟩) hHeld ?_
                    rotate_left
                    · intro w hSw; (try dsimp only at hSw); go_simp; (try with_reducible rfl)
                    simp only [Act.put, List.setIfInBounds_toArray, List.set_cons_zero, List.set_cons_succ]
                    refine wpAnyH_take (i := 2) (oi := _) (v := ?_) rfl (by kernel_rfl) (by kernel_rfl) (by kernel_rfl) (fun _ _ _ h => h) (Or.inl ⟨by rfl, ?_⟩) hHeld ?_
                    rotate_left
                    · intro w hSw; (try dsimp only at hSw); go_simp; (try with_reducible rfl)
                    simp only [Act.put, List.setIfInBounds_toArray, List.set_cons_zero, List.set_cons_succ]
                    refine wpAnyH_take (i := 3) (oi := _) (v := ?_) rfl (by kernel_rfl) (by kernel_rfl) (by kernel_rfl) (fun _ _ _ h => h) (Or.inl ⟨by rfl, ?_⟩) hHeld ?_
                    rotate_left
                    · intro w hSw; (try dsimp only at hSw); go_simp; (try with_reducible rfl)
                    simp only [Act.put, List.setIfInBounds_toArray, List.set_cons_zero, List.set_cons_succ]
                    refine wpAnyH_take (i := 4) (oi := _) (v := ?_) rfl (by kernel_rfl) (by kernel_rfl) (by kernel_rfl) (fun _ _ _ h => h) (Or.inl ⟨by rfl, ?_⟩) hHeld ?_
                    rotate_left
                    · intro w hSw; (try dsimp only at hSw); go_simp; (try with_reducible rfl)
                    simp only [Act.put, List.setIfInBounds_toArray, List.set_cons_zero, List.set_cons_succ]
                    refine wpAnyH_take (i := 5) (oi := _) (v := ?_) rfl (by kernel_rfl) (by kernel_rfl) (by kernel_rfl) (fun _ _ _ h => h) (Or.inl ⟨by rfl, ?_⟩) hHeld ?_
                    rotate_left
                    · intro w hSw; (try dsimp only at hSw); go_simp; (try with_reducible rfl)
                    simp only [Act.put, List.setIfInBounds_toArray, List.set_cons_zero, List.set_cons_succ]
                    refine wpAnyH_take (i := 6) (oi := _) (v := ?_) rfl (by kernel_rfl) (by kernel_rfl) (by kernel_rfl) (fun _ _ _ h => h) (Or.inl ⟨by rfl, ?_⟩) hHeld ?_
                    rotate_left
                    · intro w hSw; (try dsimp only at hSw); go_simp; (try with_reducible rfl)
                    simp only [Act.put, List.setIfInBounds_toArray, List.set_cons_zero, List.set_cons_succ]
                    refine wpAnyH_take (i := 7) (oi := _) (v := ?_) rfl (by kernel_rfl) (by kernel_rfl) (by kernel_rfl) (fun _ _ _ h => h) (Or.inl ⟨by rfl, ?_⟩) hHeld ?_
                    rotate_left
                    · intro w hSw; (try dsimp only at hSw); go_simp; (try with_reducible rfl)
                    simp only [Act.put, List.setIfInBounds_toArray, List.set_cons_zero, List.set_cons_succ]
                    refine wpAnyH_take (i := 8) (oi := _) (v := ?_) rfl (by kernel_rfl) (by kernel_rfl) (by kernel_rfl) (fun _ _ _ h => h) (Or.inl ⟨by rfl, ?_⟩) hHeld ?_
                    rotate_left
                    · intro w hSw; (try dsimp only at hSw); go_simp; (try with_reducible rfl)
                    simp only [Act.put, List.setIfInBounds_toArray, List.set_cons_zero, List.set_cons_succ]
                    refine wpAnyH_take (i := 9) (oi := _) (v := ?_) rfl (by kernel_rfl) (by kernel_rfl) (by kernel_rfl) (fun _ _ _ h => h) (Or.inl ⟨by rfl, ?_⟩) hHeld ?_
                    rotate_left
                    · intro w hSw; (try dsimp only at hSw); go_simp; (try with_reducible rfl)
                    simp only [Act.put, List.setIfInBounds_toArray, List.set_cons_zero, List.set_cons_succ]
                    refine wpAnyH_take (i := 10) (oi := _) (v := ?_) rfl (by kernel_rfl) (by kernel_rfl) (by kernel_rfl) (fun _ _ _ h => h) (Or.inl ⟨by rfl, ?_⟩) hHeld ?_
                    rotate_left
                    · intro w hSw; (try dsimp only at hSw); go_simp; (try with_reducible rfl)
                    simp only [Act.put, List.setIfInBounds_toArray, List.set_cons_zero, List.set_cons_succ]
                    refine wpAnyH_ready (rs := [11]) (by kernel_rfl) (by simp) ?_
                    refine (AllReadyH.cons (o := _) rfl (fun K hK => ?_) AllReadyH.nil)
                    · skip
                      go_simp
                      refine hK.out _ _ ?_ (fun hHeld => ?_)
                      · first | exact HKg.out _ | exact HKg.out 1 | exact HKg.out 2 | exact HK3.out _ | exact HK3.out 2
                      clear hK K
                      (try simp only [Act.put, List.setIfInBounds_toArray, List.set_cons_zero, List.set_cons_succ])
                      refine wpAnyH_done (by kernel_rfl) ?_ _
                      have HR3 := Lib.hid (show RDiskAt ((wg.setCell ⟨a, p.2 * 2, none⟩ (.string (str T))).setCell ⟨a, p.2 * 2 + 1, none⟩ (.int .i64 m)) b F { S with files := cutAll bs (N.take (q + 1)) 0 S.files } (.slice (some ⟨a, 0, none⟩) S.files.length fc) nv (.slice la S.last.length lc) (.slice oa S.opn.length oc) pv from by rw [← HF3.out]; exact HS2.out.1)
                      clear e0 z0' e1 z1' n3 HK3 HF3 HS1 HS2 HKg HG hHeld
                      generalize (wg.setCell ⟨a, p.2 * 2, none⟩ (.string (str T))).setCell ⟨a, p.2 * 2 + 1, none⟩ (.int .i64 m) = wx at HR3 HN3 HW3 ⊢
                      clear c0 n1 f0 f1 hf2 hf hfs hft hfz hp HN hcut hts hTl y0 y1 z0 z1 HK HZ HWf hbox b0 b1 hcb b0' b1' hcb'
                      have HQ := Lib.hid (And.intro (HR3.out.below (below_drewN (Below.refl _ _) 1)) (And.intro (HN3.out.kept (G := fun _ => False) (Wr.of_below (below_drewN (Below.refl _ _) 1)) (fun _ _ h => h)) (HW3.out.drewN 1)))
                      clear HR3 HN3 HW3
                      go_wp2
                      go_roundw
                      case rel => exact ⟨q + 1, by omega, by go_num, HQ.out.1, HQ.out.2.1, HQ.out.2.2⟩
                      case measure => simp [intOf]; omega
          · obtain rfl : q = N.length := by omega
            have hdf := hd.out
            rw [List.take_length] at hdf
            obtain ⟨-, q1, q2, q3, q4, -, q6⟩ := hdf.cells
            have g1 := hdf.free 1
            have g2 := hdf.free 2
            have g3 := hdf.free 3
            have g4 := hdf.free 4
            have g6 := hdf.free 6
            have HDF := Lib.hid hdf
            clear hdf
            go_wp2
            go_end0
            have hown := HDF.out.own
            have hb := heap_setCell_same (i := 6) (v := .bool false) (heap_setCell_same (i := 4) (v := .slice none 0 0) (heap_setCell_same (i := 3) (v := .slice none 0 0) (heap_setCell_same (i := 2) (v := .slice xa N.length xc) (heap_setCell_same (i := 1) (v := .slice xa N.length xc) HDF.out.block))))
            have hWW := (((((HA.out.2.1.trans (HW0.out.trans hw.out (Grew.refl _ _)) (Grew.refl _ _)).setCell (p := ⟨b, 1, none⟩) hown (.slice xa N.length xc)).setCell (p := ⟨b, 2, none⟩) hown (.slice xa N.length xc)).setCell (p := ⟨b, 3, none⟩) hown (.slice none 0 0)).setCell (p := ⟨b, 4, none⟩) hown (.slice none 0 0)).setCell (p := ⟨b, 6, none⟩) hown (.bool false)
            have hc := HDF.out.crashed hn.out hb (fun j hj => by
              repeat rw [Below.heap_setCell _ _ _ _ hj]) (by repeat rw [heap_setCell_size])
            have he : S.crashS k bs = ⟨cutAll bs N 0 S.files, N, N, [], [], S.steps, false⟩ := by unfold Dk.crashS; rw [HNE.out]
            rw [he]
            have hwz := HWB.out
            exact ⟨rfl, _, ⟨_, _, _, _, _, hc⟩, fun k hk => hk.elim .inl (fun h2 => by
              rcases h2.1 with h3 | h3
              · exact .inl h3
              · exact .inr (by omega)), hWW⟩
    · obtain rfl : q = S.opn.length := by omega
      have HE := Lib.hid (leftQ_end (S := S) (k := k) (q := S.opn.length) (.inl (Nat.le_refl _)))
      go_wp2_with fail
      obtain ⟨N, hN⟩ : ∃ N, S.left k = N := ⟨_, rfl⟩
      have HGN := Lib.hid (show Pl.Good S.files.length N by rw [← hN]; exact hI.left k)
      have hNf : N.length ≤ 4194304 := by have := HGN.out.few; have := hS.files; omega
      rw [HE.out, hN] at hr
      rw [HE.out, hN]
      have HNE := Lib.hid hN
      have HW0 := Lib.hid (Wr.of_below (F := F) hw.out)
      have HIR := Lib.hid (HA.out.2.2.2.kept HW0.out HHG.out)
      obtain ⟨wo, hwo⟩ : ∃ wo, wo = wr := ⟨_, rfl⟩
      subst hwo
      clear bx c3 hN
      go_wp2_with fail
      go_loopw [6] (fun i wr => ∃ q : Nat, q ≤ N.length ∧ i = .int .i64 q ∧ Hid (RDiskAt wr b F { S with files := cutAll bs (N.take q) 0 S.files } (.slice fa S.files.length fc) nv (.slice la S.last.length lc) (.slice oa S.opn.length oc) pv) ∧ Hid (NRow wr (fun g => F g ∨ wb.heap.size ≤ g) (.slice xa N.length xc) N) ∧ Hid (Wr F wo wr)) (fun i _ => N.length - (intOf i).toNat)
      case atStart => exact ⟨0, Nat.zero_le _, rfl, by show RDiskAt _ _ _ _ _ _ _ _ _; rw [List.take_zero]; exact HD.out, hr.out, Wr.refl _ _⟩
      case round =>
        obtain ⟨q, hq, rfl, hd, hn, hw⟩ := hrel
        by_cases hql : q < N.length
        · obtain ⟨p, hp⟩ : ∃ p, N[q]? = some p := ⟨_, List.getElem?_eq_getElem hql⟩
          have hpm := List.mem_of_getElem? hp
          obtain ⟨f, hf⟩ : ∃ f, S.files[p.2]? = some f := ⟨_, List.getElem?_eq_getElem (HGN.out.lt p hpm)⟩
          have hfs := hI.sync f (List.mem_of_getElem? hf)
          have hft := hS.texts f (List.mem_of_getElem? hf)
          have hfz := str_size f.text
          have hf2 : (cutAll bs (N.take q) 0 S.files)[p.2]? = some f := (cutAll_other bs _ 0 _ _ (take_fresh HGN.out.inj hp)).trans hf
          obtain ⟨a, ea, -, hFa, ha, f0, f1⟩ := hd.out.file hf2
          subst ea
          obtain ⟨gn, en, -, hgn, -, n1⟩ := hn.out.at_ hp
          subst en
          obtain ⟨c0, -, -, -, -, -, -⟩ := hd.out.cells
          have hblt := hd.out.lt b hd.out.own
          have HK := Lib.hid (show ∀ W, Below wr.heap.size wr W → W.cell? ⟨b, 0, none⟩ = some (.slice (some ⟨a, 0, none⟩) S.files.length fc) ∧ W.cell? ⟨gn, q * 2 + 1, none⟩ = some (.int .i64 p.2) ∧ W.cell? ⟨a, p.2 * 2, none⟩ = some (.string (str f.text)) ∧ W.cell? ⟨a, p.2 * 2 + 1, none⟩ = some (.int .i64 f.sync) from fun W hW => ⟨(hW.cell (by exact hblt)).trans c0, (hW.cell (by exact hgn)).trans n1, (hW.cell (by exact ha)).trans f0, (hW.cell (by exact ha)).trans f1⟩)
          have hqI : (q : Int) < (N.length : Int) := by omega
          have hq0 : (0 : Int) ≤ (q : Int) := by omega
          have hpl := HGN.out.lt p hpm
          have hpI : (p.2 : Int) < (S.files.length : Int) := by omega
          have hp0 : (0 : Int) ≤ (p.2 : Int) := by omega
          go_wp2_with fail
          refine wp_region_held_drew (S := (fun W => W.cell? ⟨b, 0, none⟩ = some (.slice (some ⟨a, 0, none⟩) S.files.length fc) ∧ W.cell? ⟨gn, q * 2 + 1, none⟩ = some (.int .i64 p.2) ∧ W.cell? ⟨a, p.2 * 2, none⟩ = some (.string (str f.text)) ∧ W.cell? ⟨a, p.2 * 2 + 1, none⟩ = some (.int .i64 f.sync))) (by kernel_rfl) ?_ (fun hHeld => ?_)
          · first | exact ⟨c0, n1, f0, f1⟩ | exact HK.out _ (Below.refl _ _).drew | exact HK.out _ ((Below.refl _ _).alloc (Nat.le_refl _) _).drew | exact HK.out _ (((Below.refl _ _).alloc (Nat.le_refl _) _).setCell (by simp) _).drew
          refine wpAnyH_take (i := 0) (oi := _) (v := ?_) rfl (by kernel_rfl) (by kernel_rfl) (by kernel_rfl) (fun _ _ _ h => h) (Or.inl ⟨by rfl, ?_⟩) hHeld ?_
          rotate_left
          · intro w hSw; (try dsimp only at hSw); go_simp; (try with_reducible rfl)
          simp only [Act.put, List.setIfInBounds_toArray, List.set_cons_zero, List.set_cons_succ]
          refine wpAnyH_take (i := 1) (oi := _) (v := ?_) rfl (by kernel_rfl) (by kernel_rfl) (by kernel_rfl) (fun _ _ _ h => h) (Or.inl ⟨by rfl, ?_⟩) hHeld ?_
          rotate_left
          · intro w hSw; (try dsimp only at hSw); go_simp; (try with_reducible rfl)
          simp only [Act.put, List.setIfInBounds_toArray, List.set_cons_zero, List.set_cons_succ]
          refine wpAnyH_take (i := 2) (oi := _) (v := ?_) rfl (by kernel_rfl) (by kernel_rfl) (by kernel_rfl) (fun _ _ _ h => h) (Or.inl ⟨by rfl, ?_⟩) hHeld ?_
          rotate_left
          · intro w hSw; (try dsimp only at hSw); go_simp; (try with_reducible rfl)
          simp only [Act.put, List.setIfInBounds_toArray, List.set_cons_zero, List.set_cons_succ]
          refine wpAnyH_take (i := 3) (oi := _) (v := ?_) rfl (by kernel_rfl) (by kernel_rfl) (by kernel_rfl) (fun _ _ _ h => h) (Or.inl ⟨by rfl, ?_⟩) hHeld ?_
          rotate_left
          · intro w hSw; (try dsimp only at hSw); go_simp; (try with_reducible rfl)
          simp only [Act.put, List.setIfInBounds_toArray, List.set_cons_zero, List.set_cons_succ]
          refine wpAnyH_take (i := 4) (oi := _) (v := ?_) rfl (by kernel_rfl) (by kernel_rfl) (by kernel_rfl) (fun _ _ _ h => h) (Or.inl ⟨by rfl, ?_⟩) hHeld ?_
          rotate_left
          · intro w hSw; (try dsimp only at hSw); go_simp; (try with_reducible rfl)
          simp only [Act.put, List.setIfInBounds_toArray, List.set_cons_zero, List.set_cons_succ]
          refine wpAnyH_take (i := 5) (oi := _) (v := ?_) rfl (by kernel_rfl) (by kernel_rfl) (by kernel_rfl) (fun _ _ _ h => h) (Or.inl ⟨by rfl, ?_⟩) hHeld ?_
          rotate_left
          · intro w hSw; (try dsimp only at hSw); go_simp; (try with_reducible rfl)
          simp only [Act.put, List.setIfInBounds_toArray, List.set_cons_zero, List.set_cons_succ]
          refine wpAnyH_take (i := 6) (oi := _) (v := ?_) rfl (by kernel_rfl) (by kernel_rfl) (by kernel_rfl) (fun _ _ _ h => h) (Or.inl ⟨by rfl, ?_⟩) hHeld ?_
          rotate_left
          · intro w hSw; (try dsimp only at hSw); go_simp; (try with_reducible rfl)
          simp only [Act.put, List.setIfInBounds_toArray, List.set_cons_zero, List.set_cons_succ]
          refine wpAnyH_take (i := 7) (oi := _) (v := ?_) rfl (by kernel_rfl) (by kernel_rfl) (by kernel_rfl) (fun _ _ _ h => h) (Or.inl ⟨by rfl, ?_⟩) hHeld ?_
          rotate_left
          · intro w hSw; (try dsimp only at hSw); go_simp; (try with_reducible rfl)
          simp only [Act.put, List.setIfInBounds_toArray, List.set_cons_zero, List.set_cons_succ]
          refine wpAnyH_take (i := 8) (oi := _) (v := ?_) rfl (by kernel_rfl) (by kernel_rfl) (by kernel_rfl) (fun _ _ _ h => h) (Or.inl ⟨by rfl, ?_⟩) hHeld ?_
          rotate_left
          · intro w hSw; (try dsimp only at hSw); go_simp; (try with_reducible rfl)
          simp only [Act.put, List.setIfInBounds_toArray, List.set_cons_zero, List.set_cons_succ]
          refine wpAnyH_take (i := 9) (oi := _) (v := ?_) rfl (by kernel_rfl) (by kernel_rfl) (by kernel_rfl) (fun _ _ _ h => h) (Or.inl ⟨by rfl, ?_⟩) hHeld ?_
          rotate_left
          · intro w hSw; (try dsimp only at hSw); go_simp; (try with_reducible rfl)
          simp only [Act.put, List.setIfInBounds_toArray, List.set_cons_zero, List.set_cons_succ]
          refine wpAnyH_take (i := 10) (oi := _) (v := ?_) rfl (by kernel_rfl) (by kernel_rfl) (by kernel_rfl) (fun _ _ _ h => h) (Or.inl ⟨by rfl, ?_⟩) hHeld ?_
          rotate_left
          · intro w hSw; (try dsimp only at hSw); go_simp; (try with_reducible rfl)
          simp only [Act.put, List.setIfInBounds_toArray, List.set_cons_zero, List.set_cons_succ]
          refine wpAnyH_ready (rs := [11]) (by kernel_rfl) (by simp) ?_
          refine (AllReadyH.cons (o := _) rfl (fun K hK => ?_) AllReadyH.nil)
          · skip
            go_simp
            refine hK.out _ _ ?_ (fun hHeld => ?_)
            · first | exact ⟨c0, n1, f0, f1⟩ | exact HK.out _ (Below.refl _ _).drew | exact HK.out _ ((Below.refl _ _).alloc (Nat.le_refl _) _).drew | exact HK.out _ (((Below.refl _ _).alloc (Nat.le_refl _) _).setCell (by simp) _).drew
            clear hK K
            (try simp only [Act.put, List.setIfInBounds_toArray, List.set_cons_zero, List.set_cons_succ])
            refine wpAnyH_ready (rs := [12]) (by kernel_rfl) (by simp) ?_
            refine (AllReadyH.cons (o := _) rfl (fun K hK => ?_) AllReadyH.nil)
            · skip
              go_simp
              refine hK.out _ _ ?_ (fun hHeld => ?_)
              · first | exact ⟨c0, n1, f0, f1⟩ | exact HK.out _ (Below.refl _ _).drew | exact HK.out _ ((Below.refl _ _).alloc (Nat.le_refl _) _).drew | exact HK.out _ (((Below.refl _ _).alloc (Nat.le_refl _) _).setCell (by simp) _).drew
              clear hK K
              (try simp only [Act.put, List.setIfInBounds_toArray, List.set_cons_zero, List.set_cons_succ])
              refine wpAnyH_done (by kernel_rfl) ?_ _
              have HWf := Lib.hid (show Wr F wo (wr.alloc (.cells #[.string (str f.text), .int .i64 f.sync] 100)) ∧ (wr.alloc (.cells #[.string (str f.text), .int .i64 f.sync] 100)).heap[wr.heap.size]? = some (.cells #[.string (str f.text), .int .i64 f.sync] 100 (0, 0)) ∧ Below wr.heap.size wr (wr.alloc (.cells #[.string (str f.text), .int .i64 f.sync] 100)) from ⟨hw.out.alloc _, heap_alloc_new wr _, (Below.refl _ _).alloc (Nat.le_refl _) _⟩)
              generalize wr.alloc (.cells #[.string (str f.text), .int .i64 f.sync] 100) = wf at HWf ⊢
              have hbox := HWf.out.2.1
              have b0 : ∀ n, (wf.drewN n).cell? ⟨wr.heap.size, 0, none⟩ = some (.string (str f.text)) := fun n => by show wf.cell? _ = _; simp [World.cell?, hbox]
              have b1 : ∀ n, (wf.drewN n).cell? ⟨wr.heap.size, 1, none⟩ = some (.int .i64 f.sync) := fun n => by show wf.cell? _ = _; simp [World.cell?, hbox]
              have hcb : ∀ n, (wf.drewN n).cell? ⟨w.heap.size, 1, none⟩ = some (.slice va bs.length vc) := fun n => (HBX.out wf (HW0.out.trans HWf.out.1 (Grew.refl _ _))).2
              have b0' : wf.cell? ⟨wr.heap.size, 0, none⟩ = some (.string (str f.text)) := b0 0
              have b1' : wf.cell? ⟨wr.heap.size, 1, none⟩ = some (.int .i64 f.sync) := b1 0
              have hcb' : wf.cell? ⟨w.heap.size, 1, none⟩ = some (.slice va bs.length vc) := hcb 0
              have z0 : wf.frozen? ⟨wr.heap.size, 0, none⟩ = false := by simp only [World.frozen?, hbox]; simp
              have z1 : wf.frozen? ⟨wr.heap.size, 1, none⟩ = false := by simp only [World.frozen?, hbox]; simp
              have HZ := Lib.hid (fun (n : Nat) (u v : Value) => box_two (w := wf.drewN n) hbox u v)
              have hfsI : (f.sync : Int) ≤ (f.text.length : Int) := by omega
              have hw1 : IntKind.i64.wrap ((f.text.length : Int) - (f.sync : Int)) = (f.text.length : Int) - (f.sync : Int) := IntWalk.i64_in _ (by omega)
              obtain ⟨n, hn⟩ : ∃ n, n = Pl.more bs q f := ⟨_, rfl⟩
              have hns : f.sync + n ≤ f.text.length := by rw [hn]; unfold Pl.more; omega
              have HN := Lib.hid (show Pl.cut bs q f = ⟨f.text.take (f.sync + n), f.sync + n⟩ by unfold Pl.cut; rw [← hn])
              have hcut := str_take f.text (f.sync + n) hns
              have hts : (str (f.text.take (f.sync + n))).size = f.sync + n := by rw [str_size, List.length_take]; omega
              have hnsI : (f.sync : Int) + (n : Int) ≤ (f.text.length : Int) := by omega
              have hw2 : IntKind.i64.wrap ((f.sync : Int) + (n : Int)) = (f.sync : Int) + (n : Int) := IntWalk.i64_in _ (by omega)
              have htn : ((f.sync : Int) + (n : Int)).toNat = f.sync + n := by omega
              have hTl : (f.text.take (f.sync + n)).length = f.sync + n := by rw [List.length_take]; omega
              clear hHeld
              by_cases hbs : bs.length = 0
              · have hn0 : n = 0 := by rw [hn]; unfold Pl.more; rw [if_pos (List.eq_nil_of_length_eq_zero hbs)]; omega
                have hbI : ¬ (0 : Int) < (bs.length : Int) := by omega
                have hbN : ¬ 0 < bs.length := by omega
                clear hbs
                have hz1 : ¬ ((f.text.length : Int) - (f.sync : Int)) < 0 := by omega
                subst hn0
                simp only [Nat.add_zero] at HN hcut hts hTl
                obtain ⟨T, hT⟩ : ∃ T, f.text.take f.sync = T := ⟨_, rfl⟩
                rw [hT] at HN hcut hts hTl
                clear hn hT hw2 htn hnsI
                obtain ⟨y0, y1, -⟩ := HZ.out 0 (.string (str T)) (.int .i64 f.sync)
                replace y0 : (wf.setCell ⟨wr.heap.size, 0, none⟩ (.string (str T))).cell? ⟨wr.heap.size, 0, none⟩ = some (.string (str T)) := y0
                replace y1 : (wf.setCell ⟨wr.heap.size, 0, none⟩ (.string (str T))).frozen? ⟨wr.heap.size, 1, none⟩ = false := y1
                go_wp2_with fail
                obtain ⟨m, hm⟩ : ∃ m, m = f.sync := ⟨_, rfl⟩
                obtain ⟨wg, hwg⟩ : ∃ wg, ((wf.setCell ⟨wr.heap.size, 0, none⟩ (.string (str T))).setCell ⟨wr.heap.size, 1, none⟩ (.int .i64 f.sync)).drew = wg := ⟨_, rfl⟩
                rw [hwg]
                have HG := Lib.hid (show wg.heap[wr.heap.size]? = some (.cells #[.string (str T), .int .i64 m] 100 (0, 0)) ∧ Below wr.heap.size wr wg from by
                  rw [← hwg, hm]
                  exact ⟨(HZ.out 0 _ _).2.2, ((HWf.out.2.2.setCell (Nat.le_refl _) _).setCell (Nat.le_refl _) _).drew⟩)
                rw [← hm] at HN
                clear hm
                clear hwg
                have HKg := Lib.hid (show ∀ n, (wg.drewN n).cell? ⟨b, 0, none⟩ = some (.slice (some ⟨a, 0, none⟩) S.files.length fc) ∧ (wg.drewN n).cell? ⟨gn, q * 2 + 1, none⟩ = some (.int .i64 p.2) ∧ (wg.drewN n).cell? ⟨wr.heap.size, 0, none⟩ = some (.string (str T)) ∧ (wg.drewN n).cell? ⟨wr.heap.size, 1, none⟩ = some (.int .i64 m) from fun n => by
                  obtain ⟨k0, k1, -, -⟩ := HK.out (wg.drewN n) (below_drewN HG.out.2 n)
                  have hb := HG.out.1
                  refine ⟨k0, k1, ?_, ?_⟩
                  · show wg.cell? _ = _
                    simp [World.cell?, hb]
                  · show wg.cell? _ = _
                    simp [World.cell?, hb])
                have hdg := hd.out.below HG.out.2
                have HS1 := Lib.hid (hdg.stored (p.2 * 2) (.string (str T)) ((cutAll bs (N.take q) 0 S.files).modify p.2 (fun x => ⟨T, x.sync⟩)) (List.length_modify ..) (rfRow_set0 hf2 rfl) (by show S.files.length = (cutAll bs (N.take q) 0 S.files).length; rw [cutAll_length]) (by omega))
                have hf3 : ((cutAll bs (N.take q) 0 S.files).modify p.2 (fun x => ⟨T, x.sync⟩))[p.2]? = some ⟨T, f.sync⟩ := by rw [List.getElem?_modify, hf2]; simp
                have HS2 := Lib.hid (HS1.out.1.stored (p.2 * 2 + 1) (.int .i64 m) (((cutAll bs (N.take q) 0 S.files).modify p.2 (fun x => ⟨T, x.sync⟩)).modify p.2 (fun x => ⟨x.text, m⟩)) (List.length_modify ..) (rfRow_set1 hf3 rfl) (by show S.files.length = (List.modify _ _ _).length; rw [List.length_modify, cutAll_length]) (by omega))
                have e0 : wg.cell? ⟨a, p.2 * 2, none⟩ = some (.string (str f.text)) := (HG.out.2.cell (by exact ha)).trans f0
                have z0' : wg.frozen? ⟨a, p.2 * 2, none⟩ = false := HS1.out.2.2
                obtain ⟨a', ea, -, -, -, -, e1⟩ := HS1.out.1.file hf3
                obtain rfl : a = a' := by simpa using ea
                have z1' := HS2.out.2.2
                obtain ⟨cur, hcur⟩ : ∃ cur, wg.heap[a]? = some (.cells cur 100 (0, 0)) := by
                  obtain ⟨g, c, e, -, -, hc, -⟩ := RowC.at_ hdg.files (by show 0 < (cutAll bs (N.take q) 0 S.files).length; rw [cutAll_length]; omega) (by omega)
                  simp only [Value.slice.injEq, Option.some.injEq, Addr.mk.injEq] at e
                  obtain ⟨⟨rfl, -⟩, -⟩ := e
                  exact hc
                have hng := hn.out.kept (G := fun _ => False) (Wr.of_below HG.out.2) (fun _ _ h => h)
                have HN3 := Lib.hid ((hng.fileSet hcur (p.2 * 2) (.string (str T))).fileSet (heap_setCell_same hcur) (p.2 * 2 + 1) (.int .i64 m))
                obtain ⟨gn', en, -, -, -, n3⟩ := HN3.out.at_ hp
                obtain rfl : gn = gn' := by simpa using en
                have hae : wr.heap.size ≠ a := by omega
                have HK3 := Lib.hid (show ∀ n, ((((wg.setCell ⟨a, p.2 * 2, none⟩ (.string (str T))).setCell ⟨a, p.2 * 2 + 1, none⟩ (.int .i64 m))).drewN n).cell? ⟨b, 0, none⟩ = some (.slice (some ⟨a, 0, none⟩) S.files.length fc) ∧ ((((wg.setCell ⟨a, p.2 * 2, none⟩ (.string (str T))).setCell ⟨a, p.2 * 2 + 1, none⟩ (.int .i64 m))).drewN n).cell? ⟨gn, q * 2 + 1, none⟩ = some (.int .i64 p.2) ∧ ((((wg.setCell ⟨a, p.2 * 2, none⟩ (.string (str T))).setCell ⟨a, p.2 * 2 + 1, none⟩ (.int .i64 m))).drewN n).cell? ⟨wr.heap.size, 0, none⟩ = some (.string (str T)) ∧ ((((wg.setCell ⟨a, p.2 * 2, none⟩ (.string (str T))).setCell ⟨a, p.2 * 2 + 1, none⟩ (.int .i64 m))).drewN n).cell? ⟨wr.heap.size, 1, none⟩ = some (.int .i64 m) from fun n => by
                  have hb : ((wg.setCell ⟨a, p.2 * 2, none⟩ (.string (str T))).setCell ⟨a, p.2 * 2 + 1, none⟩ (.int .i64 m)).heap[wr.heap.size]? = some (.cells #[.string (str T), .int .i64 m] 100 (0, 0)) := by
                    rw [Below.heap_setCell _ _ _ _ hae, Below.heap_setCell _ _ _ _ hae]; exact HG.out.1
                  refine ⟨HS2.out.1.cells.1, n3, ?_, ?_⟩
                  · show World.cell? _ _ = _
                    simp [World.cell?, hb]
                  · show World.cell? _ _ = _
                    simp [World.cell?, hb])
                have HF3 := Lib.hid (show (((cutAll bs (N.take q) 0 S.files).modify p.2 (fun x => ⟨T, x.sync⟩)).modify p.2 (fun x => ⟨x.text, m⟩)) = cutAll bs (N.take (q + 1)) 0 S.files from by
                  rw [cutAll_take bs hp, modify_two]
                  exact modify_like hf2 HN.out.symm)
                have HW3 := Lib.hid (((hw.out.trans (Wr.of_below HG.out.2) (Grew.refl _ _)).setCell (p := ⟨a, p.2 * 2, none⟩) HS1.out.2.1 (.string (str T))).setCell (p := ⟨a, p.2 * 2 + 1, none⟩) HS2.out.2.1 (.int .i64 m))
                clear hdg hf3 ea hcur hng en
                refine wp_region_held_drew (S := (fun W => W.cell? ⟨b, 0, none⟩ = some (.slice (some ⟨a, 0, none⟩) S.files.length fc) ∧ W.cell? ⟨gn, q * 2 + 1, none⟩ = some (.int .i64 p.2) ∧ W.cell? ⟨wr.heap.size, 0, none⟩ = some (.string (str T)) ∧ W.cell? ⟨wr.heap.size, 1, none⟩ = some (.int .i64 m))) (by kernel_rfl) ?_ (fun hHeld => ?_)
                · first | exact HKg.out _ | exact HKg.out 1 | exact HKg.out 2 | exact HK3.out _ | exact HK3.out 2
                refine wpAnyH_take (i := 0) (oi := _) (v := ?_) rfl (by kernel_rfl) (by kernel_rfl) (by kernel_rfl) (fun _ _ _ h => h) (Or.inl ⟨by rfl, ?_⟩) hHeld ?_
                rotate_left
                · intro w hSw; (try dsimp only at hSw); go_simp; (try with_reducible rfl)
                simp only [Act.put, List.setIfInBounds_toArray, List.set_cons_zero, List.set_cons_succ]
                refine wpAnyH_take (i := 1) (oi := _) (v := ?_) rfl (by kernel_rfl) (by kernel_rfl) (by kernel_rfl) (fun _ _ _ h => h) (Or.inl ⟨by rfl, ?_⟩) hHeld ?_
                rotate_left
                · intro w hSw; (try dsimp only at hSw); go_simp; (try with_reducible rfl)
                simp only [Act.put, List.setIfInBounds_toArray, List.set_cons_zero, List.set_cons_succ]
                refine wpAnyH_take (i := 2) (oi := _) (v := ?_) rfl (by kernel_rfl) (by kernel_rfl) (by kernel_rfl) (fun _ _ _ h => h) (Or.inl ⟨by rfl, ?_⟩) hHeld ?_
                rotate_left
                · intro w hSw; (try dsimp only at hSw); go_simp; (try with_reducible rfl)
                simp only [Act.put, List.setIfInBounds_toArray, List.set_cons_zero, List.set_cons_succ]
                refine wpAnyH_take (i := 3) (oi := _) (v := ?_) rfl (by kernel_rfl) (by kernel_rfl) (by kernel_rfl) (fun _ _ _ h => h) (Or.inl ⟨by rfl, ?_⟩) hHeld ?_
                rotate_left
                · intro w hSw; (try dsimp only at hSw); go_simp; (try with_reducible rfl)
                simp only [Act.put, List.setIfInBounds_toArray, List.set_cons_zero, List.set_cons_succ]
                refine wpAnyH_take (i := 4) (oi := _) (v := ?_) rfl (by kernel_rfl) (by kernel_rfl) (by kernel_rfl) (fun _ _ _ h => h) (Or.inl ⟨by rfl, ?_⟩) hHeld ?_
                rotate_left
                · intro w hSw; (try dsimp only at hSw); go_simp; (try with_reducible rfl)
                simp only [Act.put, List.setIfInBounds_toArray, List.set_cons_zero, List.set_cons_succ]
                refine wpAnyH_take (i := 5) (oi := _) (v := ?_) rfl (by kernel_rfl) (by kernel_rfl) (by kernel_rfl) (fun _ _ _ h => h) (Or.inl ⟨by rfl, ?_⟩) hHeld ?_
                rotate_left
                · intro w hSw; (try dsimp only at hSw); go_simp; (try with_reducible rfl)
                simp only [Act.put, List.setIfInBounds_toArray, List.set_cons_zero, List.set_cons_succ]
                refine wpAnyH_take (i := 6) (oi := _) (v := ?_) rfl (by kernel_rfl) (by kernel_rfl) (by kernel_rfl) (fun _ _ _ h => h) (Or.inl ⟨by rfl, ?_⟩) hHeld ?_
                rotate_left
                · intro w hSw; (try dsimp only at hSw); go_simp; (try with_reducible rfl)
                simp only [Act.put, List.setIfInBounds_toArray, List.set_cons_zero, List.set_cons_succ]
                refine wpAnyH_take (i := 7) (oi := _) (v := ?_) rfl (by kernel_rfl) (by kernel_rfl) (by kernel_rfl) (fun _ _ _ h => h) (Or.inl ⟨by rfl, ?_⟩) hHeld ?_
                rotate_left
                · intro w hSw; (try dsimp only at hSw); go_simp; (try with_reducible rfl)
                simp only [Act.put, List.setIfInBounds_toArray, List.set_cons_zero, List.set_cons_succ]
                refine wpAnyH_take (i := 8) (oi := _) (v := ?_) rfl (by kernel_rfl) (by kernel_rfl) (by kernel_rfl) (fun _ _ _ h => h) (Or.inl ⟨by rfl, ?_⟩) hHeld ?_
                rotate_left
                · intro w hSw; (try dsimp only at hSw); go_simp; (try with_reducible rfl)
                simp only [Act.put, List.setIfInBounds_toArray, List.set_cons_zero, List.set_cons_succ]
                refine wpAnyH_take (i := 9) (oi := _) (v := ?_) rfl (by kernel_rfl) (by kernel_rfl) (by kernel_rfl) (fun _ _ _ h => h) (Or.inl ⟨by rfl, ?_⟩) hHeld ?_
                rotate_left
                · intro w hSw; (try dsimp only at hSw); go_simp; (try with_reducible rfl)
                simp only [Act.put, List.setIfInBounds_toArray, List.set_cons_zero, List.set_cons_succ]
                refine wpAnyH_take (i := 10) (oi := _) (v := ?_) rfl (by kernel_rfl) (by kernel_rfl) (by kernel_rfl) (fun _ _ _ h => h) (Or.inl ⟨by rfl, ?_⟩) hHeld ?_
                rotate_left
                · intro w hSw; (try dsimp only at hSw); go_simp; (try with_reducible rfl)
                simp only [Act.put, List.setIfInBounds_toArray, List.set_cons_zero, List.set_cons_succ]
                refine wpAnyH_ready (rs := [11]) (by kernel_rfl) (by simp) ?_
                refine (AllReadyH.cons (o := _) rfl (fun K hK => ?_) AllReadyH.nil)
                · skip
                  go_simp
                  refine hK.out _ _ ?_ (fun hHeld => ?_)
                  · first | exact HKg.out _ | exact HKg.out 1 | exact HKg.out 2 | exact HK3.out _ | exact HK3.out 2
                  clear hK K
                  (try simp only [Act.put, List.setIfInBounds_toArray, List.set_cons_zero, List.set_cons_succ])
                  refine wpAnyH_done (by kernel_rfl) ?_ _
                  have HR3 := Lib.hid (show RDiskAt ((wg.setCell ⟨a, p.2 * 2, none⟩ (.string (str T))).setCell ⟨a, p.2 * 2 + 1, none⟩ (.int .i64 m)) b F { S with files := cutAll bs (N.take (q + 1)) 0 S.files } (.slice (some ⟨a, 0, none⟩) S.files.length fc) nv (.slice la S.last.length lc) (.slice oa S.opn.length oc) pv from by rw [← HF3.out]; exact HS2.out.1)
                  clear e0 z0' e1 z1' n3 HK3 HF3 HS1 HS2 HKg HG hHeld
                  generalize (wg.setCell ⟨a, p.2 * 2, none⟩ (.string (str T))).setCell ⟨a, p.2 * 2 + 1, none⟩ (.int .i64 m) = wx at HR3 HN3 HW3 ⊢
                  clear c0 n1 f0 f1 hf2 hf hfs hft hfz hp HN hcut hts hTl y0 y1 z0 z1 HK HZ HWf hbox b0 b1 hcb b0' b1' hcb'
                  have HQ := Lib.hid (And.intro (HR3.out.below (below_drewN (Below.refl _ _) 1)) (And.intro (HN3.out.kept (G := fun _ => False) (Wr.of_below (below_drewN (Below.refl _ _) 1)) (fun _ _ h => h)) (HW3.out.drewN 1)))
                  clear HR3 HN3 HW3
                  go_wp2
                  go_roundw
                  case rel => exact ⟨q + 1, by omega, by go_num, HQ.out.1, HQ.out.2.1, HQ.out.2.2⟩
                  case measure => simp [intOf]; omega
              · obtain ⟨x, hx⟩ : ∃ x, bs[q % bs.length]? = some x := ⟨_, List.getElem?_eq_getElem (Nat.mod_lt _ (by omega))⟩
                obtain ⟨gi, oi, ei, hgi, hci⟩ := (HIR.out.bounded.kept HWf.out.1 (fun x hx => HHG.out x hx.1)).at_ hx
                subst ei
                have hbI : (0 : Int) < (bs.length : Int) := by omega
                have hbN : 0 < bs.length := by omega
                have hb0 : ((bs.length : Int) == 0) = false := by rw [beq_eq_false_iff_ne]; omega
                have hmod : (q : Int).tmod (bs.length : Int) = ((q % bs.length : Nat) : Int) := by rw [Int.tmod_eq_emod_of_nonneg (by omega)]; rfl
                have hnx : max (0 : Int) (min x ((f.text.length : Int) - (f.sync : Int))) = (n : Int) := by
                  rw [hn]
                  unfold Pl.more
                  rw [if_neg (fun e => hbs (by rw [e]; rfl)), List.getD_eq_getElem?_getD, hx]
                  simp only [Option.getD_some]
                  omega
                have hml : q % bs.length < bs.length := Nat.mod_lt _ (by omega)
                obtain ⟨mi, hmi⟩ : ∃ mi, q % bs.length = mi := ⟨_, rfl⟩
                rw [hmi] at hmod hml hci
                have hmlI : (mi : Int) < (bs.length : Int) := by omega
                have hmi0 : (0 : Int) ≤ (mi : Int) := by omega
                have ci : ∀ n, (wf.drewN n).cell? ⟨gi, oi + mi, none⟩ = some (.int .i64 x) := fun n => hci
                obtain ⟨T, hT⟩ : ∃ T, f.text.take (f.sync + n) = T := ⟨_, rfl⟩
                rw [hT] at HN hcut hts hTl
                clear hn hT hbs hx hmi hci
                obtain ⟨y0, y1, -⟩ := HZ.out 0 (.string (str T)) (.int .i64 f.sync)
                replace y0 : (wf.setCell ⟨wr.heap.size, 0, none⟩ (.string (str T))).cell? ⟨wr.heap.size, 0, none⟩ = some (.string (str T)) := y0
                replace y1 : (wf.setCell ⟨wr.heap.size, 0, none⟩ (.string (str T))).frozen? ⟨wr.heap.size, 1, none⟩ = false := y1
                by_cases hx0 : x < 0
                · have hn0 : n = 0 := by omega
                  have hz1 : ¬ ((f.text.length : Int) - (f.sync : Int)) < 0 := by omega
                  subst hn0
                  simp only [Nat.add_zero] at HN hcut hts hTl
                  clear hnx htn hw2 hnsI
                  go_wp2_with fail
                  go_quiet (fail)
                  go_wp2_with fail
                  obtain ⟨m, hm⟩ : ∃ m, m = f.sync := ⟨_, rfl⟩
                  obtain ⟨wg, hwg⟩ : ∃ wg, ((wf.drewN (1 + nq)).setCell ⟨wr.heap.size, 0, none⟩ (.string (str T))).setCell ⟨wr.heap.size, 1, none⟩ (.int .i64 f.sync) = wg := ⟨_, rfl⟩
                  rw [hwg]
                  have HG := Lib.hid (show wg.heap[wr.heap.size]? = some (.cells #[.string (str T), .int .i64 m] 100 (0, 0)) ∧ Below wr.heap.size wr wg from by
                    rw [← hwg, hm]
                    exact ⟨(HZ.out _ _ _).2.2, ((below_drewN HWf.out.2.2 _).setCell (Nat.le_refl _) _).setCell (Nat.le_refl _) _⟩)
                  rw [← hm] at HN
                  clear hm
                  clear hwg
                  have HKg := Lib.hid (show ∀ n, (wg.drewN n).cell? ⟨b, 0, none⟩ = some (.slice (some ⟨a, 0, none⟩) S.files.length fc) ∧ (wg.drewN n).cell? ⟨gn, q * 2 + 1, none⟩ = some (.int .i64 p.2) ∧ (wg.drewN n).cell? ⟨wr.heap.size, 0, none⟩ = some (.string (str T)) ∧ (wg.drewN n).cell? ⟨wr.heap.size, 1, none⟩ = some (.int .i64 m) from fun n => by
                    obtain ⟨k0, k1, -, -⟩ := HK.out (wg.drewN n) (below_drewN HG.out.2 n)
                    have hb := HG.out.1
                    refine ⟨k0, k1, ?_, ?_⟩
                    · show wg.cell? _ = _
                      simp [World.cell?, hb]
                    · show wg.cell? _ = _
                      simp [World.cell?, hb])
                  have hdg := hd.out.below HG.out.2
                  have HS1 := Lib.hid (hdg.stored (p.2 * 2) (.string (str T)) ((cutAll bs (N.take q) 0 S.files).modify p.2 (fun x => ⟨T, x.sync⟩)) (List.length_modify ..) (rfRow_set0 hf2 rfl) (by show S.files.length = (cutAll bs (N.take q) 0 S.files).length; rw [cutAll_length]) (by omega))
                  have hf3 : ((cutAll bs (N.take q) 0 S.files).modify p.2 (fun x => ⟨T, x.sync⟩))[p.2]? = some ⟨T, f.sync⟩ := by rw [List.getElem?_modify, hf2]; simp
                  have HS2 := Lib.hid (HS1.out.1.stored (p.2 * 2 + 1) (.int .i64 m) (((cutAll bs (N.take q) 0 S.files).modify p.2 (fun x => ⟨T, x.sync⟩)).modify p.2 (fun x => ⟨x.text, m⟩)) (List.length_modify ..) (rfRow_set1 hf3 rfl) (by show S.files.length = (List.modify _ _ _).length; rw [List.length_modify, cutAll_length]) (by omega))
                  have e0 : wg.cell? ⟨a, p.2 * 2, none⟩ = some (.string (str f.text)) := (HG.out.2.cell (by exact ha)).trans f0
                  have z0' : wg.frozen? ⟨a, p.2 * 2, none⟩ = false := HS1.out.2.2
                  obtain ⟨a', ea, -, -, -, -, e1⟩ := HS1.out.1.file hf3
                  obtain rfl : a = a' := by simpa using ea
                  have z1' := HS2.out.2.2
                  obtain ⟨cur, hcur⟩ : ∃ cur, wg.heap[a]? = some (.cells cur 100 (0, 0)) := by
                    obtain ⟨g, c, e, -, -, hc, -⟩ := RowC.at_ hdg.files (by show 0 < (cutAll bs (N.take q) 0 S.files).length; rw [cutAll_length]; omega) (by omega)
                    simp only [Value.slice.injEq, Option.some.injEq, Addr.mk.injEq] at e
                    obtain ⟨⟨rfl, -⟩, -⟩ := e
                    exact hc
                  have hng := hn.out.kept (G := fun _ => False) (Wr.of_below HG.out.2) (fun _ _ h => h)
                  have HN3 := Lib.hid ((hng.fileSet hcur (p.2 * 2) (.string (str T))).fileSet (heap_setCell_same hcur) (p.2 * 2 + 1) (.int .i64 m))
                  obtain ⟨gn', en, -, -, -, n3⟩ := HN3.out.at_ hp
                  obtain rfl : gn = gn' := by simpa using en
                  have hae : wr.heap.size ≠ a := by omega
                  have HK3 := Lib.hid (show ∀ n, ((((wg.setCell ⟨a, p.2 * 2, none⟩ (.string (str T))).setCell ⟨a, p.2 * 2 + 1, none⟩ (.int .i64 m))).drewN n).cell? ⟨b, 0, none⟩ = some (.slice (some ⟨a, 0, none⟩) S.files.length fc) ∧ ((((wg.setCell ⟨a, p.2 * 2, none⟩ (.string (str T))).setCell ⟨a, p.2 * 2 + 1, none⟩ (.int .i64 m))).drewN n).cell? ⟨gn, q * 2 + 1, none⟩ = some (.int .i64 p.2) ∧ ((((wg.setCell ⟨a, p.2 * 2, none⟩ (.string (str T))).setCell ⟨a, p.2 * 2 + 1, none⟩ (.int .i64 m))).drewN n).cell? ⟨wr.heap.size, 0, none⟩ = some (.string (str T)) ∧ ((((wg.setCell ⟨a, p.2 * 2, none⟩ (.string (str T))).setCell ⟨a, p.2 * 2 + 1, none⟩ (.int .i64 m))).drewN n).cell? ⟨wr.heap.size, 1, none⟩ = some (.int .i64 m) from fun n => by
                    have hb : ((wg.setCell ⟨a, p.2 * 2, none⟩ (.string (str T))).setCell ⟨a, p.2 * 2 + 1, none⟩ (.int .i64 m)).heap[wr.heap.size]? = some (.cells #[.string (str T), .int .i64 m] 100 (0, 0)) := by
                      rw [Below.heap_setCell _ _ _ _ hae, Below.heap_setCell _ _ _ _ hae]; exact HG.out.1
                    refine ⟨HS2.out.1.cells.1, n3, ?_, ?_⟩
                    · show World.cell? _ _ = _
                      simp [World.cell?, hb]
                    · show World.cell? _ _ = _
                      simp [World.cell?, hb])
                  have HF3 := Lib.hid (show (((cutAll bs (N.take q) 0 S.files).modify p.2 (fun x => ⟨T, x.sync⟩)).modify p.2 (fun x => ⟨x.text, m⟩)) = cutAll bs (N.take (q + 1)) 0 S.files from by
                    rw [cutAll_take bs hp, modify_two]
                    exact modify_like hf2 HN.out.symm)
                  have HW3 := Lib.hid (((hw.out.trans (Wr.of_below HG.out.2) (Grew.refl _ _)).setCell (p := ⟨a, p.2 * 2, none⟩) HS1.out.2.1 (.string (str T))).setCell (p := ⟨a, p.2 * 2 + 1, none⟩) HS2.out.2.1 (.int .i64 m))
                  clear hdg hf3 ea hcur hng en
                  refine wp_region_held_drew (S := (fun W => W.cell? ⟨b, 0, none⟩ = some (.slice (some ⟨a, 0, none⟩) S.files.length fc) ∧ W.cell? ⟨gn, q * 2 + 1, none⟩ = some (.int .i64 p.2) ∧ W.cell? ⟨wr.heap.size, 0, none⟩ = some (.string (str T)) ∧ W.cell? ⟨wr.heap.size, 1, none⟩ = some (.int .i64 m))) (by kernel_rfl) ?_ (fun hHeld => ?_)
                  · first | exact HKg.out _ | exact HKg.out 1 | exact HKg.out 2 | exact HK3.out _ | exact HK3.out 2
                  refine wpAnyH_take (i := 0) (oi := _) (v := ?_) rfl (by kernel_rfl) (by kernel_rfl) (by kernel_rfl) (fun _ _ _ h => h) (Or.inl ⟨by rfl, ?_⟩) hHeld ?_
                  rotate_left
                  · intro w hSw; (try dsimp only at hSw); go_simp; (try with_reducible rfl)
                  simp only [Act.put, List.setIfInBounds_toArray, List.set_cons_zero, List.set_cons_succ]
                  refine wpAnyH_take (i := 1) (oi := _) (v := ?_) rfl (by kernel_rfl) (by kernel_rfl) (by kernel_rfl) (fun _ _ _ h => h) (Or.inl ⟨by rfl, ?_⟩) hHeld ?_
                  rotate_left
                  · intro w hSw; (try dsimp only at hSw); go_simp; (try with_reducible rfl)
                  simp only [Act.put, List.setIfInBounds_toArray, List.set_cons_zero, List.set_cons_succ]
                  refine wpAnyH_take (i := 2) (oi := _) (v := ?_) rfl (by kernel_rfl) (by kernel_rfl) (by kernel_rfl) (fun _ _ _ h => h) (Or.inl ⟨by rfl, ?_⟩) hHeld ?_
                  rotate_left
                  · intro w hSw; (try dsimp only at hSw); go_simp; (try with_reducible rfl)
                  simp only [Act.put, List.setIfInBounds_toArray, List.set_cons_zero, List.set_cons_succ]
                  refine wpAnyH_take (i := 3) (oi := _) (v := ?_) rfl (by kernel_rfl) (by kernel_rfl) (by kernel_rfl) (fun _ _ _ h => h) (Or.inl ⟨by rfl, ?_⟩) hHeld ?_
                  rotate_left
                  · intro w hSw; (try dsimp only at hSw); go_simp; (try with_reducible rfl)
                  simp only [Act.put, List.setIfInBounds_toArray, List.set_cons_zero, List.set_cons_succ]
                  refine wpAnyH_take (i := 4) (oi := _) (v := ?_) rfl (by kernel_rfl) (by kernel_rfl) (by kernel_rfl) (fun _ _ _ h => h) (Or.inl ⟨by rfl, ?_⟩) hHeld ?_
                  rotate_left
                  · intro w hSw; (try dsimp only at hSw); go_simp; (try with_reducible rfl)
                  simp only [Act.put, List.setIfInBounds_toArray, List.set_cons_zero, List.set_cons_succ]
                  refine wpAnyH_take (i := 5) (oi := _) (v := ?_) rfl (by kernel_rfl) (by kernel_rfl) (by kernel_rfl) (fun _ _ _ h => h) (Or.inl ⟨by rfl, ?_⟩) hHeld ?_
                  rotate_left
                  · intro w hSw; (try dsimp only at hSw); go_simp; (try with_reducible rfl)
                  simp only [Act.put, List.setIfInBounds_toArray, List.set_cons_zero, List.set_cons_succ]
                  refine wpAnyH_take (i := 6) (oi := _) (v := ?_) rfl (by kernel_rfl) (by kernel_rfl) (by kernel_rfl) (fun _ _ _ h => h) (Or.inl ⟨by rfl, ?_⟩) hHeld ?_
                  rotate_left
                  · intro w hSw; (try dsimp only at hSw); go_simp; (try with_reducible rfl)
                  simp only [Act.put, List.setIfInBounds_toArray, List.set_cons_zero, List.set_cons_succ]
                  refine wpAnyH_take (i := 7) (oi := _) (v := ?_) rfl (by kernel_rfl) (by kernel_rfl) (by kernel_rfl) (fun _ _ _ h => h) (Or.inl ⟨by rfl, ?_⟩) hHeld ?_
                  rotate_left
                  · intro w hSw; (try dsimp only at hSw); go_simp; (try with_reducible rfl)
                  simp only [Act.put, List.setIfInBounds_toArray, List.set_cons_zero, List.set_cons_succ]
                  refine wpAnyH_take (i := 8) (oi := _) (v := ?_) rfl (by kernel_rfl) (by kernel_rfl) (by kernel_rfl) (fun _ _ _ h => h) (Or.inl ⟨by rfl, ?_⟩) hHeld ?_
                  rotate_left
                  · intro w hSw; (try dsimp only at hSw); go_simp; (try with_reducible rfl)
                  simp only [Act.put, List.setIfInBounds_toArray, List.set_cons_zero, List.set_cons_succ]
                  refine wpAnyH_take (i := 9) (oi := _) (v := ?_) rfl (by kernel_rfl) (by kernel_rfl) (by kernel_rfl) (fun _ _ _ h => h) (Or.inl ⟨by rfl, ?_⟩) hHeld ?_
                  rotate_left
                  · intro w hSw; (try dsimp only at hSw); go_simp; (try with_reducible rfl)
                  simp only [Act.put, List.setIfInBounds_toArray, List.set_cons_zero, List.set_cons_succ]
                  refine wpAnyH_take (i := 10) (oi := _) (v := ?_) rfl (by kernel_rfl) (by kernel_rfl) (by kernel_rfl) (fun _ _ _ h => h) (Or.inl ⟨by rfl, ?_⟩) hHeld ?_
                  rotate_left
                  · intro w hSw; (try dsimp only at hSw); go_simp; (try with_reducible rfl)
                  simp only [Act.put, List.setIfInBounds_toArray, List.set_cons_zero, List.set_cons_succ]
                  refine wpAnyH_ready (rs := [11]) (by kernel_rfl) (by simp) ?_
                  refine (AllReadyH.cons (o := _) rfl (fun K hK => ?_) AllReadyH.nil)
                  · skip
                    go_simp
                    refine hK.out _ _ ?_ (fun hHeld => ?_)
                    · first | exact HKg.out _ | exact HKg.out 1 | exact HKg.out 2 | exact HK3.out _ | exact HK3.out 2
                    clear hK K
                    (try simp only [Act.put, List.setIfInBounds_toArray, List.set_cons_zero, List.set_cons_succ])
                    refine wpAnyH_done (by kernel_rfl) ?_ _
                    have HR3 := Lib.hid (show RDiskAt ((wg.setCell ⟨a, p.2 * 2, none⟩ (.string (str T))).setCell ⟨a, p.2 * 2 + 1, none⟩ (.int .i64 m)) b F { S with files := cutAll bs (N.take (q + 1)) 0 S.files } (.slice (some ⟨a, 0, none⟩) S.files.length fc) nv (.slice la S.last.length lc) (.slice oa S.opn.length oc) pv from by rw [← HF3.out]; exact HS2.out.1)
                    clear e0 z0' e1 z1' n3 HK3 HF3 HS1 HS2 HKg HG hHeld
                    generalize (wg.setCell ⟨a, p.2 * 2, none⟩ (.string (str T))).setCell ⟨a, p.2 * 2 + 1, none⟩ (.int .i64 m) = wx at HR3 HN3 HW3 ⊢
                    clear c0 n1 f0 f1 hf2 hf hfs hft hfz hp HN hcut hts hTl y0 y1 z0 z1 HK HZ HWf hbox b0 b1 hcb b0' b1' hcb'
                    have HQ := Lib.hid (And.intro (HR3.out.below (below_drewN (Below.refl _ _) 1)) (And.intro (HN3.out.kept (G := fun _ => False) (Wr.of_below (below_drewN (Below.refl _ _) 1)) (fun _ _ h => h)) (HW3.out.drewN 1)))
                    clear HR3 HN3 HW3
                    go_wp2
                    go_roundw
                    case rel => exact ⟨q + 1, by omega, by go_num, HQ.out.1, HQ.out.2.1, HQ.out.2.2⟩
                    case measure => simp [intOf]; omega
                have hx0' : (0 : Int) ≤ x := by omega
                by_cases hx1 : ((f.text.length : Int) - (f.sync : Int)) < x
                · have hnI : (n : Int) < x := by omega
                  replace hw1 : IntKind.i64.wrap ((f.text.length : Int) - (f.sync : Int)) = (n : Int) := by rw [hw1]; omega
                  clear hnx hx1
                  skip
                  obtain ⟨m, hm⟩ : ∃ m, f.sync + n = m := ⟨_, rfl⟩
                  replace hw2 : IntKind.i64.wrap ((f.sync : Int) + (n : Int)) = (m : Int) := by rw [hw2]; omega
                  have hmI : (m : Int) ≤ (f.text.length : Int) := by omega
                  rw [hm] at HN hcut hts hTl
                  clear htn hnsI hm hns hfsI
                  go_wp2_with fail
                  go_quiet (fail)
                  go_wp2_with fail
                  obtain ⟨wg, hwg⟩ : ∃ wg, ((wf.drewN (1 + nq)).setCell ⟨wr.heap.size, 0, none⟩ (.string (str T))).setCell ⟨wr.heap.size, 1, none⟩ (.int .i64 m) = wg := ⟨_, rfl⟩
                  rw [hwg]
                  have HG := Lib.hid (show wg.heap[wr.heap.size]? = some (.cells #[.string (str T), .int .i64 m] 100 (0, 0)) ∧ Below wr.heap.size wr wg from by
                    rw [← hwg]
                    exact ⟨(HZ.out _ _ _).2.2, ((below_drewN HWf.out.2.2 _).setCell (Nat.le_refl _) _).setCell (Nat.le_refl _) _⟩)
                  clear hwg
                  have HKg := Lib.hid (show ∀ n, (wg.drewN n).cell? ⟨b, 0, none⟩ = some (.slice (some ⟨a, 0, none⟩) S.files.length fc) ∧ (wg.drewN n).cell? ⟨gn, q * 2 + 1, none⟩ = some (.int .i64 p.2) ∧ (wg.drewN n).cell? ⟨wr.heap.size, 0, none⟩ = some (.string (str T)) ∧ (wg.drewN n).cell? ⟨wr.heap.size, 1, none⟩ = some (.int .i64 m) from fun n => by
                    obtain ⟨k0, k1, -, -⟩ := HK.out (wg.drewN n) (below_drewN HG.out.2 n)
                    have hb := HG.out.1
                    refine ⟨k0, k1, ?_, ?_⟩
                    · show wg.cell? _ = _
                      simp [World.cell?, hb]
                    · show wg.cell? _ = _
                      simp [World.cell?, hb])
                  have hdg := hd.out.below HG.out.2
                  have HS1 := Lib.hid (hdg.stored (p.2 * 2) (.string (str T)) ((cutAll bs (N.take q) 0 S.files).modify p.2 (fun x => ⟨T, x.sync⟩)) (List.length_modify ..) (rfRow_set0 hf2 rfl) (by show S.files.length = (cutAll bs (N.take q) 0 S.files).length; rw [cutAll_length]) (by omega))
                  have hf3 : ((cutAll bs (N.take q) 0 S.files).modify p.2 (fun x => ⟨T, x.sync⟩))[p.2]? = some ⟨T, f.sync⟩ := by rw [List.getElem?_modify, hf2]; simp
                  have HS2 := Lib.hid (HS1.out.1.stored (p.2 * 2 + 1) (.int .i64 m) (((cutAll bs (N.take q) 0 S.files).modify p.2 (fun x => ⟨T, x.sync⟩)).modify p.2 (fun x => ⟨x.text, m⟩)) (List.length_modify ..) (rfRow_set1 hf3 rfl) (by show S.files.length = (List.modify _ _ _).length; rw [List.length_modify, cutAll_length]) (by omega))
                  have e0 : wg.cell? ⟨a, p.2 * 2, none⟩ = some (.string (str f.text)) := (HG.out.2.cell (by exact ha)).trans f0
                  have z0' : wg.frozen? ⟨a, p.2 * 2, none⟩ = false := HS1.out.2.2
                  obtain ⟨a', ea, -, -, -, -, e1⟩ := HS1.out.1.file hf3
                  obtain rfl : a = a' := by simpa using ea
                  have z1' := HS2.out.2.2
                  obtain ⟨cur, hcur⟩ : ∃ cur, wg.heap[a]? = some (.cells cur 100 (0, 0)) := by
                    obtain ⟨g, c, e, -, -, hc, -⟩ := RowC.at_ hdg.files (by show 0 < (cutAll bs (N.take q) 0 S.files).length; rw [cutAll_length]; omega) (by omega)
                    simp only [Value.slice.injEq, Option.some.injEq, Addr.mk.injEq] at e
                    obtain ⟨⟨rfl, -⟩, -⟩ := e
                    exact hc
                  have hng := hn.out.kept (G := fun _ => False) (Wr.of_below HG.out.2) (fun _ _ h => h)
                  have HN3 := Lib.hid ((hng.fileSet hcur (p.2 * 2) (.string (str T))).fileSet (heap_setCell_same hcur) (p.2 * 2 + 1) (.int .i64 m))
                  obtain ⟨gn', en, -, -, -, n3⟩ := HN3.out.at_ hp
                  obtain rfl : gn = gn' := by simpa using en
                  have hae : wr.heap.size ≠ a := by omega
                  have HK3 := Lib.hid (show ∀ n, ((((wg.setCell ⟨a, p.2 * 2, none⟩ (.string (str T))).setCell ⟨a, p.2 * 2 + 1, none⟩ (.int .i64 m))).drewN n).cell? ⟨b, 0, none⟩ = some (.slice (some ⟨a, 0, none⟩) S.files.length fc) ∧ ((((wg.setCell ⟨a, p.2 * 2, none⟩ (.string (str T))).setCell ⟨a, p.2 * 2 + 1, none⟩ (.int .i64 m))).drewN n).cell? ⟨gn, q * 2 + 1, none⟩ = some (.int .i64 p.2) ∧ ((((wg.setCell ⟨a, p.2 * 2, none⟩ (.string (str T))).setCell ⟨a, p.2 * 2 + 1, none⟩ (.int .i64 m))).drewN n).cell? ⟨wr.heap.size, 0, none⟩ = some (.string (str T)) ∧ ((((wg.setCell ⟨a, p.2 * 2, none⟩ (.string (str T))).setCell ⟨a, p.2 * 2 + 1, none⟩ (.int .i64 m))).drewN n).cell? ⟨wr.heap.size, 1, none⟩ = some (.int .i64 m) from fun n => by
                    have hb : ((wg.setCell ⟨a, p.2 * 2, none⟩ (.string (str T))).setCell ⟨a, p.2 * 2 + 1, none⟩ (.int .i64 m)).heap[wr.heap.size]? = some (.cells #[.string (str T), .int .i64 m] 100 (0, 0)) := by
                      rw [Below.heap_setCell _ _ _ _ hae, Below.heap_setCell _ _ _ _ hae]; exact HG.out.1
                    refine ⟨HS2.out.1.cells.1, n3, ?_, ?_⟩
                    · show World.cell? _ _ = _
                      simp [World.cell?, hb]
                    · show World.cell? _ _ = _
                      simp [World.cell?, hb])
                  have HF3 := Lib.hid (show (((cutAll bs (N.take q) 0 S.files).modify p.2 (fun x => ⟨T, x.sync⟩)).modify p.2 (fun x => ⟨x.text, m⟩)) = cutAll bs (N.take (q + 1)) 0 S.files from by
                    rw [cutAll_take bs hp, modify_two]
                    exact modify_like hf2 HN.out.symm)
                  have HW3 := Lib.hid (((hw.out.trans (Wr.of_below HG.out.2) (Grew.refl _ _)).setCell (p := ⟨a, p.2 * 2, none⟩) HS1.out.2.1 (.string (str T))).setCell (p := ⟨a, p.2 * 2 + 1, none⟩) HS2.out.2.1 (.int .i64 m))
                  clear hdg hf3 ea hcur hng en
                  refine wp_region_held_drew (S := (fun W => W.cell? ⟨b, 0, none⟩ = some (.slice (some ⟨a, 0, none⟩) S.files.length fc) ∧ W.cell? ⟨gn, q * 2 + 1, none⟩ = some (.int .i64 p.2) ∧ W.cell? ⟨wr.heap.size, 0, none⟩ = some (.string (str T)) ∧ W.cell? ⟨wr.heap.size, 1, none⟩ = some (.int .i64 m))) (by kernel_rfl) ?_ (fun hHeld => ?_)
                  · first | exact HKg.out _ | exact HKg.out 1 | exact HKg.out 2 | exact HK3.out _ | exact HK3.out 2
                  refine wpAnyH_take (i := 0) (oi := _) (v := ?_) rfl (by kernel_rfl) (by kernel_rfl) (by kernel_rfl) (fun _ _ _ h => h) (Or.inl ⟨by rfl, ?_⟩) hHeld ?_
                  rotate_left
                  · intro w hSw; (try dsimp only at hSw); go_simp; (try with_reducible rfl)
                  simp only [Act.put, List.setIfInBounds_toArray, List.set_cons_zero, List.set_cons_succ]
                  refine wpAnyH_take (i := 1) (oi := _) (v := ?_) rfl (by kernel_rfl) (by kernel_rfl) (by kernel_rfl) (fun _ _ _ h => h) (Or.inl ⟨by rfl, ?_⟩) hHeld ?_
                  rotate_left
                  · intro w hSw; (try dsimp only at hSw); go_simp; (try with_reducible rfl)
                  simp only [Act.put, List.setIfInBounds_toArray, List.set_cons_zero, List.set_cons_succ]
                  refine wpAnyH_take (i := 2) (oi := _) (v := ?_) rfl (by kernel_rfl) (by kernel_rfl) (by kernel_rfl) (fun _ _ _ h => h) (Or.inl ⟨by rfl, ?_⟩) hHeld ?_
                  rotate_left
                  · intro w hSw; (try dsimp only at hSw); go_simp; (try with_reducible rfl)
                  simp only [Act.put, List.setIfInBounds_toArray, List.set_cons_zero, List.set_cons_succ]
                  refine wpAnyH_take (i := 3) (oi := _) (v := ?_) rfl (by kernel_rfl) (by kernel_rfl) (by kernel_rfl) (fun _ _ _ h => h) (Or.inl ⟨by rfl, ?_⟩) hHeld ?_
                  rotate_left
                  · intro w hSw; (try dsimp only at hSw); go_simp; (try with_reducible rfl)
                  simp only [Act.put, List.setIfInBounds_toArray, List.set_cons_zero, List.set_cons_succ]
                  refine wpAnyH_take (i := 4) (oi := _) (v := ?_) rfl (by kernel_rfl) (by kernel_rfl) (by kernel_rfl) (fun _ _ _ h => h) (Or.inl ⟨by rfl, ?_⟩) hHeld ?_
                  rotate_left
                  · intro w hSw; (try dsimp only at hSw); go_simp; (try with_reducible rfl)
                  simp only [Act.put, List.setIfInBounds_toArray, List.set_cons_zero, List.set_cons_succ]
                  refine wpAnyH_take (i := 5) (oi := _) (v := ?_) rfl (by kernel_rfl) (by kernel_rfl) (by kernel_rfl) (fun _ _ _ h => h) (Or.inl ⟨by rfl, ?_⟩) hHeld ?_
                  rotate_left
                  · intro w hSw; (try dsimp only at hSw); go_simp; (try with_reducible rfl)
                  simp only [Act.put, List.setIfInBounds_toArray, List.set_cons_zero, List.set_cons_succ]
                  refine wpAnyH_take (i := 6) (oi := _) (v := ?_) rfl (by kernel_rfl) (by kernel_rfl) (by kernel_rfl) (fun _ _ _ h => h) (Or.inl ⟨by rfl, ?_⟩) hHeld ?_
                  rotate_left
                  · intro w hSw; (try dsimp only at hSw); go_simp; (try with_reducible rfl)
                  simp only [Act.put, List.setIfInBounds_toArray, List.set_cons_zero, List.set_cons_succ]
                  refine wpAnyH_take (i := 7) (oi := _) (v := ?_) rfl (by kernel_rfl) (by kernel_rfl) (by kernel_rfl) (fun _ _ _ h => h) (Or.inl ⟨by rfl, ?_⟩) hHeld ?_
                  rotate_left
                  · intro w hSw; (try dsimp only at hSw); go_simp; (try with_reducible rfl)
                  simp only [Act.put, List.setIfInBounds_toArray, List.set_cons_zero, List.set_cons_succ]
                  refine wpAnyH_take (i := 8) (oi := _) (v := ?_) rfl (by kernel_rfl) (by kernel_rfl) (by kernel_rfl) (fun _ _ _ h => h) (Or.inl ⟨by rfl, ?_⟩) hHeld ?_
                  rotate_left
                  · intro w hSw; (try dsimp only at hSw); go_simp; (try with_reducible rfl)
                  simp only [Act.put, List.setIfInBounds_toArray, List.set_cons_zero, List.set_cons_succ]
                  refine wpAnyH_take (i := 9) (oi := _) (v := ?_) rfl (by kernel_rfl) (by kernel_rfl) (by kernel_rfl) (fun _ _ _ h => h) (Or.inl ⟨by rfl, ?_⟩) hHeld ?_
                  rotate_left
                  · intro w hSw; (try dsimp only at hSw); go_simp; (try with_reducible rfl)
                  simp only [Act.put, List.setIfInBounds_toArray, List.set_cons_zero, List.set_cons_succ]
                  refine wpAnyH_take (i := 10) (oi := _) (v := ?_) rfl (by kernel_rfl) (by kernel_rfl) (by kernel_rfl) (fun _ _ _ h => h) (Or.inl ⟨by rfl, ?_⟩) hHeld ?_
                  rotate_left
                  · intro w hSw; (try dsimp only at hSw); go_simp; (try with_reducible rfl)
                  simp only [Act.put, List.setIfInBounds_toArray, List.set_cons_zero, List.set_cons_succ]
                  refine wpAnyH_ready (rs := [11]) (by kernel_rfl) (by simp) ?_
                  refine (AllReadyH.cons (o := _) rfl (fun K hK => ?_) AllReadyH.nil)
                  · skip
                    go_simp
                    refine hK.out _ _ ?_ (fun hHeld => ?_)
                    · first | exact HKg.out _ | exact HKg.out 1 | exact HKg.out 2 | exact HK3.out _ | exact HK3.out 2
                    clear hK K
                    (try simp only [Act.put, List.setIfInBounds_toArray, List.set_cons_zero, List.set_cons_succ])
                    refine wpAnyH_done (by kernel_rfl) ?_ _
                    have HR3 := Lib.hid (show RDiskAt ((wg.setCell ⟨a, p.2 * 2, none⟩ (.string (str T))).setCell ⟨a, p.2 * 2 + 1, none⟩ (.int .i64 m)) b F { S with files := cutAll bs (N.take (q + 1)) 0 S.files } (.slice (some ⟨a, 0, none⟩) S.files.length fc) nv (.slice la S.last.length lc) (.slice oa S.opn.length oc) pv from by rw [← HF3.out]; exact HS2.out.1)
                    clear e0 z0' e1 z1' n3 HK3 HF3 HS1 HS2 HKg HG hHeld
                    generalize (wg.setCell ⟨a, p.2 * 2, none⟩ (.string (str T))).setCell ⟨a, p.2 * 2 + 1, none⟩ (.int .i64 m) = wx at HR3 HN3 HW3 ⊢
                    clear c0 n1 f0 f1 hf2 hf hfs hft hfz hp HN hcut hts hTl y0 y1 z0 z1 HK HZ HWf hbox b0 b1 hcb b0' b1' hcb'
                    have HQ := Lib.hid (And.intro (HR3.out.below (below_drewN (Below.refl _ _) 1)) (And.intro (HN3.out.kept (G := fun _ => False) (Wr.of_below (below_drewN (Below.refl _ _) 1)) (fun _ _ h => h)) (HW3.out.drewN 1)))
                    clear HR3 HN3 HW3
                    go_wp2
                    go_roundw
                    case rel => exact ⟨q + 1, by omega, by go_num, HQ.out.1, HQ.out.2.1, HQ.out.2.2⟩
                    case measure => simp [intOf]; omega
                · obtain rfl : x = (n : Int) := by omega
                  clear hnx
                  skip
                  obtain ⟨m, hm⟩ : ∃ m, f.sync + n = m := ⟨_, rfl⟩
                  replace hw2 : IntKind.i64.wrap ((f.sync : Int) + (n : Int)) = (m : Int) := by rw [hw2]; omega
                  have hmI : (m : Int) ≤ (f.text.length : Int) := by omega
                  rw [hm] at HN hcut hts hTl
                  clear htn hnsI hm hns hfsI
                  go_wp2_with fail
                  go_quiet (fail)
                  go_wp2_with fail
                  obtain ⟨wg, hwg⟩ : ∃ wg, ((wf.drewN (1 + nq)).setCell ⟨wr.heap.size, 0, none⟩ (.string (str T))).setCell ⟨wr.heap.size, 1, none⟩ (.int .i64 m) = wg := ⟨_, rfl⟩
                  rw [hwg]
                  have HG := Lib.hid (show wg.heap[wr.heap.size]? = some (.cells #[.string (str T), .int .i64 m] 100 (0, 0)) ∧ Below wr.heap.size wr wg from by
                    rw [← hwg]
                    exact ⟨(HZ.out _ _ _).2.2, ((below_drewN HWf.out.2.2 _).setCell (Nat.le_refl _) _).setCell (Nat.le_refl _) _⟩)
                  clear hwg
                  have HKg := Lib.hid (show ∀ n, (wg.drewN n).cell? ⟨b, 0, none⟩ = some (.slice (some ⟨a, 0, none⟩) S.files.length fc) ∧ (wg.drewN n).cell? ⟨gn, q * 2 + 1, none⟩ = some (.int .i64 p.2) ∧ (wg.drewN n).cell? ⟨wr.heap.size, 0, none⟩ = some (.string (str T)) ∧ (wg.drewN n).cell? ⟨wr.heap.size, 1, none⟩ = some (.int .i64 m) from fun n => by
                    obtain ⟨k0, k1, -, -⟩ := HK.out (wg.drewN n) (below_drewN HG.out.2 n)
                    have hb := HG.out.1
                    refine ⟨k0, k1, ?_, ?_⟩
                    · show wg.cell? _ = _
                      simp [World.cell?, hb]
                    · show wg.cell? _ = _
                      simp [World.cell?, hb])
                  have hdg := hd.out.below HG.out.2
                  have HS1 := Lib.hid (hdg.stored (p.2 * 2) (.string (str T)) ((cutAll bs (N.take q) 0 S.files).modify p.2 (fun x => ⟨T, x.sync⟩)) (List.length_modify ..) (rfRow_set0 hf2 rfl) (by show S.files.length = (cutAll bs (N.take q) 0 S.files).length; rw [cutAll_length]) (by omega))
                  have hf3 : ((cutAll bs (N.take q) 0 S.files).modify p.2 (fun x => ⟨T, x.sync⟩))[p.2]? = some ⟨T, f.sync⟩ := by rw [List.getElem?_modify, hf2]; simp
                  have HS2 := Lib.hid (HS1.out.1.stored (p.2 * 2 + 1) (.int .i64 m) (((cutAll bs (N.take q) 0 S.files).modify p.2 (fun x => ⟨T, x.sync⟩)).modify p.2 (fun x => ⟨x.text, m⟩)) (List.length_modify ..) (rfRow_set1 hf3 rfl) (by show S.files.length = (List.modify _ _ _).length; rw [List.length_modify, cutAll_length]) (by omega))
                  have e0 : wg.cell? ⟨a, p.2 * 2, none⟩ = some (.string (str f.text)) := (HG.out.2.cell (by exact ha)).trans f0
                  have z0' : wg.frozen? ⟨a, p.2 * 2, none⟩ = false := HS1.out.2.2
                  obtain ⟨a', ea, -, -, -, -, e1⟩ := HS1.out.1.file hf3
                  obtain rfl : a = a' := by simpa using ea
                  have z1' := HS2.out.2.2
                  obtain ⟨cur, hcur⟩ : ∃ cur, wg.heap[a]? = some (.cells cur 100 (0, 0)) := by
                    obtain ⟨g, c, e, -, -, hc, -⟩ := RowC.at_ hdg.files (by show 0 < (cutAll bs (N.take q) 0 S.files).length; rw [cutAll_length]; omega) (by omega)
                    simp only [Value.slice.injEq, Option.some.injEq, Addr.mk.injEq] at e
                    obtain ⟨⟨rfl, -⟩, -⟩ := e
                    exact hc
                  have hng := hn.out.kept (G := fun _ => False) (Wr.of_below HG.out.2) (fun _ _ h => h)
                  have HN3 := Lib.hid ((hng.fileSet hcur (p.2 * 2) (.string (str T))).fileSet (heap_setCell_same hcur) (p.2 * 2 + 1) (.int .i64 m))
                  obtain ⟨gn', en, -, -, -, n3⟩ := HN3.out.at_ hp
                  obtain rfl : gn = gn' := by simpa using en
                  have hae : wr.heap.size ≠ a := by omega
                  have HK3 := Lib.hid (show ∀ n, ((((wg.setCell ⟨a, p.2 * 2, none⟩ (.string (str T))).setCell ⟨a, p.2 * 2 + 1, none⟩ (.int .i64 m))).drewN n).cell? ⟨b, 0, none⟩ = some (.slice (some ⟨a, 0, none⟩) S.files.length fc) ∧ ((((wg.setCell ⟨a, p.2 * 2, none⟩ (.string (str T))).setCell ⟨a, p.2 * 2 + 1, none⟩ (.int .i64 m))).drewN n).cell? ⟨gn, q * 2 + 1, none⟩ = some (.int .i64 p.2) ∧ ((((wg.setCell ⟨a, p.2 * 2, none⟩ (.string (str T))).setCell ⟨a, p.2 * 2 + 1, none⟩ (.int .i64 m))).drewN n).cell? ⟨wr.heap.size, 0, none⟩ = some (.string (str T)) ∧ ((((wg.setCell ⟨a, p.2 * 2, none⟩ (.string (str T))).setCell ⟨a, p.2 * 2 + 1, none⟩ (.int .i64 m))).drewN n).cell? ⟨wr.heap.size, 1, none⟩ = some (.int .i64 m) from fun n => by
                    have hb : ((wg.setCell ⟨a, p.2 * 2, none⟩ (.string (str T))).setCell ⟨a, p.2 * 2 + 1, none⟩ (.int .i64 m)).heap[wr.heap.size]? = some (.cells #[.string (str T), .int .i64 m] 100 (0, 0)) := by
                      rw [Below.heap_setCell _ _ _ _ hae, Below.heap_setCell _ _ _ _ hae]; exact HG.out.1
                    refine ⟨HS2.out.1.cells.1, n3, ?_, ?_⟩
                    · show World.cell? _ _ = _
                      simp [World.cell?, hb]
                    · show World.cell? _ _ = _
                      simp [World.cell?, hb])
                  have HF3 := Lib.hid (show (((cutAll bs (N.take q) 0 S.files).modify p.2 (fun x => ⟨T, x.sync⟩)).modify p.2 (fun x => ⟨x.text, m⟩)) = cutAll bs (N.take (q + 1)) 0 S.files from by
                    rw [cutAll_take bs hp, modify_two]
                    exact modify_like hf2 HN.out.symm)
                  have HW3 := Lib.hid (((hw.out.trans (Wr.of_below HG.out.2) (Grew.refl _ _)).setCell (p := ⟨a, p.2 * 2, none⟩) HS1.out.2.1 (.string (str T))).setCell (p := ⟨a, p.2 * 2 + 1, none⟩) HS2.out.2.1 (.int .i64 m))
                  clear hdg hf3 ea hcur hng en
                  refine wp_region_held_drew (S := (fun W => W.cell? ⟨b, 0, none⟩ = some (.slice (some ⟨a, 0, none⟩) S.files.length fc) ∧ W.cell? ⟨gn, q * 2 + 1, none⟩ = some (.int .i64 p.2) ∧ W.cell? ⟨wr.heap.size, 0, none⟩ = some (.string (str T)) ∧ W.cell? ⟨wr.heap.size, 1, none⟩ = some (.int .i64 m))) (by kernel_rfl) ?_ (fun hHeld => ?_)
                  · first | exact HKg.out _ | exact HKg.out 1 | exact HKg.out 2 | exact HK3.out _ | exact HK3.out 2
                  refine wpAnyH_take (i := 0) (oi := _) (v := ?_) rfl (by kernel_rfl) (by kernel_rfl) (by kernel_rfl) (fun _ _ _ h => h) (Or.inl ⟨by rfl, ?_⟩) hHeld ?_
                  rotate_left
                  · intro w hSw; (try dsimp only at hSw); go_simp; (try with_reducible rfl)
                  simp only [Act.put, List.setIfInBounds_toArray, List.set_cons_zero, List.set_cons_succ]
                  refine wpAnyH_take (i := 1) (oi := _) (v := ?_) rfl (by kernel_rfl) (by kernel_rfl) (by kernel_rfl) (fun _ _ _ h => h) (Or.inl ⟨by rfl, ?_⟩) hHeld ?_
                  rotate_left
                  · intro w hSw; (try dsimp only at hSw); go_simp; (try with_reducible rfl)
                  simp only [Act.put, List.setIfInBounds_toArray, List.set_cons_zero, List.set_cons_succ]
                  refine wpAnyH_take (i := 2) (oi := _) (v := ?_) rfl (by kernel_rfl) (by kernel_rfl) (by kernel_rfl) (fun _ _ _ h => h) (Or.inl ⟨by rfl, ?_⟩) hHeld ?_
                  rotate_left
                  · intro w hSw; (try dsimp only at hSw); go_simp; (try with_reducible rfl)
                  simp only [Act.put, List.setIfInBounds_toArray, List.set_cons_zero, List.set_cons_succ]
                  refine wpAnyH_take (i := 3) (oi := _) (v := ?_) rfl (by kernel_rfl) (by kernel_rfl) (by kernel_rfl) (fun _ _ _ h => h) (Or.inl ⟨by rfl, ?_⟩) hHeld ?_
                  rotate_left
                  · intro w hSw; (try dsimp only at hSw); go_simp; (try with_reducible rfl)
                  simp only [Act.put, List.setIfInBounds_toArray, List.set_cons_zero, List.set_cons_succ]
                  refine wpAnyH_take (i := 4) (oi := _) (v := ?_) rfl (by kernel_rfl) (by kernel_rfl) (by kernel_rfl) (fun _ _ _ h => h) (Or.inl ⟨by rfl, ?_⟩) hHeld ?_
                  rotate_left
                  · intro w hSw; (try dsimp only at hSw); go_simp; (try with_reducible rfl)
                  simp only [Act.put, List.setIfInBounds_toArray, List.set_cons_zero, List.set_cons_succ]
                  refine wpAnyH_take (i := 5) (oi := _) (v := ?_) rfl (by kernel_rfl) (by kernel_rfl) (by kernel_rfl) (fun _ _ _ h => h) (Or.inl ⟨by rfl, ?_⟩) hHeld ?_
                  rotate_left
                  · intro w hSw; (try dsimp only at hSw); go_simp; (try with_reducible rfl)
                  simp only [Act.put, List.setIfInBounds_toArray, List.set_cons_zero, List.set_cons_succ]
                  refine wpAnyH_take (i := 6) (oi := _) (v := ?_) rfl (by kernel_rfl) (by kernel_rfl) (by kernel_rfl) (fun _ _ _ h => h) (Or.inl ⟨by rfl, ?_⟩) hHeld ?_
                  rotate_left
                  · intro w hSw; (try dsimp only at hSw); go_simp; (try with_reducible rfl)
                  simp only [Act.put, List.setIfInBounds_toArray, List.set_cons_zero, List.set_cons_succ]
                  refine wpAnyH_take (i := 7) (oi := _) (v := ?_) rfl (by kernel_rfl) (by kernel_rfl) (by kernel_rfl) (fun _ _ _ h => h) (Or.inl ⟨by rfl, ?_⟩) hHeld ?_
                  rotate_left
                  · intro w hSw; (try dsimp only at hSw); go_simp; (try with_reducible rfl)
                  simp only [Act.put, List.setIfInBounds_toArray, List.set_cons_zero, List.set_cons_succ]
                  refine wpAnyH_take (i := 8) (oi := _) (v := ?_) rfl (by kernel_rfl) (by kernel_rfl) (by kernel_rfl) (fun _ _ _ h => h) (Or.inl ⟨by rfl, ?_⟩) hHeld ?_
                  rotate_left
                  · intro w hSw; (try dsimp only at hSw); go_simp; (try with_reducible rfl)
                  simp only [Act.put, List.setIfInBounds_toArray, List.set_cons_zero, List.set_cons_succ]
                  refine wpAnyH_take (i := 9) (oi := _) (v := ?_) rfl (by kernel_rfl) (by kernel_rfl) (by kernel_rfl) (fun _ _ _ h => h) (Or.inl ⟨by rfl, ?_⟩) hHeld ?_
                  rotate_left
                  · intro w hSw; (try dsimp only at hSw); go_simp; (try with_reducible rfl)
                  simp only [Act.put, List.setIfInBounds_toArray, List.set_cons_zero, List.set_cons_succ]
                  refine wpAnyH_take (i := 10) (oi := _) (v := ?_) rfl (by kernel_rfl) (by kernel_rfl) (by kernel_rfl) (fun _ _ _ h => h) (Or.inl ⟨by rfl, ?_⟩) hHeld ?_
                  rotate_left
                  · intro w hSw; (try dsimp only at hSw); go_simp; (try with_reducible rfl)
                  simp only [Act.put, List.setIfInBounds_toArray, List.set_cons_zero, List.set_cons_succ]
                  refine wpAnyH_ready (rs := [11]) (by kernel_rfl) (by simp) ?_
                  refine (AllReadyH.cons (o := _) rfl (fun K hK => ?_) AllReadyH.nil)
                  · skip
                    go_simp
                    refine hK.out _ _ ?_ (fun hHeld => ?_)
                    · first | exact HKg.out _ | exact HKg.out 1 | exact HKg.out 2 | exact HK3.out _ | exact HK3.out 2
                    clear hK K
                    (try simp only [Act.put, List.setIfInBounds_toArray, List.set_cons_zero, List.set_cons_succ])
                    refine wpAnyH_done (by kernel_rfl) ?_ _
                    have HR3 := Lib.hid (show RDiskAt ((wg.setCell ⟨a, p.2 * 2, none⟩ (.string (str T))).setCell ⟨a, p.2 * 2 + 1, none⟩ (.int .i64 m)) b F { S with files := cutAll bs (N.take (q + 1)) 0 S.files } (.slice (some ⟨a, 0, none⟩) S.files.length fc) nv (.slice la S.last.length lc) (.slice oa S.opn.length oc) pv from by rw [← HF3.out]; exact HS2.out.1)
                    clear e0 z0' e1 z1' n3 HK3 HF3 HS1 HS2 HKg HG hHeld
                    generalize (wg.setCell ⟨a, p.2 * 2, none⟩ (.string (str T))).setCell ⟨a, p.2 * 2 + 1, none⟩ (.int .i64 m) = wx at HR3 HN3 HW3 ⊢
                    clear c0 n1 f0 f1 hf2 hf hfs hft hfz hp HN hcut hts hTl y0 y1 z0 z1 HK HZ HWf hbox b0 b1 hcb b0' b1' hcb'
                    have HQ := Lib.hid (And.intro (HR3.out.below (below_drewN (Below.refl _ _) 1)) (And.intro (HN3.out.kept (G := fun _ => False) (Wr.of_below (below_drewN (Below.refl _ _) 1)) (fun _ _ h => h)) (HW3.out.drewN 1)))
                    clear HR3 HN3 HW3
                    go_wp2
                    go_roundw
                    case rel => exact ⟨q + 1, by omega, by go_num, HQ.out.1, HQ.out.2.1, HQ.out.2.2⟩
                    case measure => simp [intOf]; omega
        · obtain rfl : q = N.length := by omega
          have hdf := hd.out
          rw [List.take_length] at hdf
          obtain ⟨-, q1, q2, q3, q4, -, q6⟩ := hdf.cells
          have g1 := hdf.free 1
          have g2 := hdf.free 2
          have g3 := hdf.free 3
          have g4 := hdf.free 4
          have g6 := hdf.free 6
          have HDF := Lib.hid hdf
          clear hdf
          go_wp2
          go_end0
          have hown := HDF.out.own
          have hb := heap_setCell_same (i := 6) (v := .bool false) (heap_setCell_same (i := 4) (v := .slice none 0 0) (heap_setCell_same (i := 3) (v := .slice none 0 0) (heap_setCell_same (i := 2) (v := .slice xa N.length xc) (heap_setCell_same (i := 1) (v := .slice xa N.length xc) HDF.out.block))))
          have hWW := (((((HA.out.2.1.trans (HW0.out.trans hw.out (Grew.refl _ _)) (Grew.refl _ _)).setCell (p := ⟨b, 1, none⟩) hown (.slice xa N.length xc)).setCell (p := ⟨b, 2, none⟩) hown (.slice xa N.length xc)).setCell (p := ⟨b, 3, none⟩) hown (.slice none 0 0)).setCell (p := ⟨b, 4, none⟩) hown (.slice none 0 0)).setCell (p := ⟨b, 6, none⟩) hown (.bool false)
          have hc := HDF.out.crashed hn.out hb (fun j hj => by
            repeat rw [Below.heap_setCell _ _ _ _ hj]) (by repeat rw [heap_setCell_size])
          have he : S.crashS k bs = ⟨cutAll bs N 0 S.files, N, N, [], [], S.steps, false⟩ := by unfold Dk.crashS; rw [HNE.out]
          rw [he]
          have hwz := HWB.out
          exact ⟨rfl, _, ⟨_, _, _, _, _, hc⟩, fun k hk => hk.elim .inl (fun h2 => by
            rcases h2.1 with h3 | h3
            · exact .inl h3
            · exact .inr (by omega)), hWW⟩
end Go.Proofs.Ytbjlffhnkcbnmaa
