/- aof: read. -/
import Derived.Test.YtfbjmhipjfjaeaaGreatDoorM22
import Derived.Test.YtfbjmhipjfjaeaaGreatDoorM16
import Derived.Test.YtfbjmhipjfjaeaaGreatDoorM14
import Derived.Test.YtfbjmhipjfjaeaaGreatDoorM07
import Derived.Deep.DeepCutAuto
namespace Go.Proofs.YtfbjmhipjfjaeaaGreatDoor
open Go.ChangeShapes Go.WideShapes Go.ChangeAt Go.RowKit Go.Maps Pl
set_option linter.unusedVariables false
set_option linter.unusedSimpArgs false
section
variable {ops : Array Oper} {rest : List Oper} {o : Oper} {a : Act} {Q : Exit → Act → World → Prop}
/-- 'out = append(out, x)', one text. -/
theorem wpList_append_text (w : World) (hgd : o.guard = none) (s x : Operand) (ho : o.op = .call { callee := .builtin .append, args := #[s, x], argTypes := #[23, 23] })
    (base : Nat) (v : Value) (n : Nat) (xs : List Value) (hs : a.eval s = v) (hown : w.ownsRow base 9 1 v n xs)
    (u : Value) (h1 : u.oneCell' = true) (hx : a.eval x = .slice (some ⟨w.heap.size, 0, none⟩) 1 1)
    (h63 : n + 1 ≤ maxLen) (hbytes : (n + 1) * 16 ≤ 140737488355328) (hbase : base ≤ w.heap.size)
    (h : ∀ v' w', w'.ownsRow base 9 1 v' (n + 1) (xs ++ [u]) → (∀ (W : World) (B : Nat), Below B W w → B ≤ base → Below B W w') → wpList Tryz.prog ops Q rest (a.put o.dst v') w') :
    wpList Tryz.prog ops Q (o :: rest) a (w.alloc (.cells #[u] 9)) := by
  obtain ⟨i, hi, hz, hsz, hby⟩ := info_parts infoS
  refine wpList_append_own _ hgd s x _ ho base 9 i _ 1 16 Tryz.underlying23 hi hz hsz hby rfl (by omega) v n xs hs (hown.alloc _) ⟨w.heap.size, 0, none⟩ 1 1 [u] hx rfl (cell_one_new _ _ _) (by simp [h1]) h63 hbytes (by simp; omega) ?_
  intro v' w' hown' hg _
  have hg2 : w.grownBy w' v.ownBlock := World.grownBy.trans (World.grownBy_alloc w _ _) hg
  refine h v' w' hown' fun W B hb hB => hb.grown hg2 ?_ fun k hk => ?_
  · omega
  · have := (hown.lt k hk).1; omega
end
theorem headS_size {n : Nat} (h : n ≠ 0) : (headS n).size = 16 := by
  unfold headS; rw [if_neg h, ByteArray.size_append, fix8S_size]; rfl
theorem ph_head {n : Nat} (hn : n ≤ 18446744073709551615) (hn0 : n ≠ 0) (x : Tx) (hx : x.length ≤ 140737488351232) (w : World) :
    Calls Tryz.prog 69 #[.string (str (headT n ++ x))] w fun e w' => e = .returned (.tuple #[.int .u64 n, .int .i64 0]) ∧ Below w.heap.size w w' := by
  have h := ph_any (str (headT n ++ x)) w (by rw [str_size, List.length_append]; have := headT_le n; unfold maxLen; omega)
  have hl : (str (headT n ++ x)).data.toList = [67, 79, 86, 69, 78, 65, 78, 84] ++ (Pl.fixL n 8 ++ x) := by
    rw [str_toList]; unfold headT; rw [if_neg hn0, List.append_assoc]
  have hs : 16 ≤ (str (headT n ++ x)).size := by rw [str_size, List.length_append, headT_length hn0]; omega
  have hd : ((str (headT n ++ x)).extract 8 16).data.toList = Pl.fixL n 8 := by
    rw [Lib.extract_data, hl, Pl.drop_front (by rfl), Pl.take_front (Pl.fixL_length _ _)]
  have h8 : unfixN ((str (headT n ++ x)).extract 8 16) = n := by
    have hz : ((str (headT n ++ x)).extract 8 16).size = 8 := by rw [ByteArray.size_extract]; omega
    unfold unfixN
    rw [if_pos (by omega), hd, Pl.num_fixL, Nat.mod_eq_of_lt]
    omega
  have hok : phOk (str (headT n ++ x)) := by
    refine ⟨hs, ?_, by rw [h8]; exact hn0⟩
    rw [ByteArray.toList_eq, Lib.extract_data, hl]
    rfl
  rw [show phN (str (headT n ++ x)) = n from (if_pos hok).trans h8, show phE (str (headT n ++ x)) = 0 from if_pos hok] at h
  exact h
/-- What the log's file holds: a head, and groups from its number on, whole ones and perhaps one that has not ended. -/
structure LogTx (s : Tx) (f : Nat) (bs : List Tx) (x : Tx) (pos : Nat) (torn : Bool) : Prop where
  eq : s = headT f ++ x
  first : f ≠ 0
  few : f + bs.length ≤ 4611686018427387904
  scan : Pl.scan x = ⟨grps f bs, pos, if torn = true then 251 else 0⟩
  fits : x.length ≤ 140737488351232
theorem LogTx.pos_le {s : Tx} {f : Nat} {bs : List Tx} {x : Tx} {pos : Nat} {torn : Bool} (h : LogTx s f bs x pos torn) : pos ≤ x.length := by
  have := scanGo_many x (x.length + 1) [] 0 (Nat.zero_le _) (Nat.le_refl _)
  have h2 := h.scan
  unfold Pl.scan at h2
  rw [h2] at this
  exact this.2
theorem LogTx.many {s : Tx} {f : Nat} {bs : List Tx} {x : Tx} {pos : Nat} {torn : Bool} (h : LogTx s f bs x pos torn) : 25 * bs.length ≤ x.length := by
  have := scan_many x
  rw [h.scan] at this
  simpa [grps_length] using this
theorem grps_at : ∀ {f : Nat} {bs : List Tx} {i : Nat} {t : Tx}, bs[i]? = some t → (grps f bs)[i]? = some (f + i, t)
  | f, b :: r, 0, t, h => by cases h; rfl
  | f, b :: r, i + 1, t, h => by
    have := grps_at (f := f + 1) (bs := r) (i := i) (t := t) (by simpa using h)
    simp only [grps, List.getElem?_cons_succ]
    rw [this, show f + 1 + i = f + (i + 1) by omega]
  | f, [], i, t, h => by simp at h
/-- The scan's groups, from block B on, ahead of N. -/
def GrAt (B N : Nat) (W : World) (ao : Option Addr) (n : Nat) (bs : List Tx) : Prop := n = bs.length ∧ N ≤ W.heap.size ∧ (bs = [] ∨ ∃ g, ao = some ⟨g, 0, none⟩ ∧ B ≤ g ∧ g < N ∧ ∀ i t, bs[i]? = some t → ∃ k : Nat, W.cell? ⟨g, i * 2, none⟩ = some (.int .u64 k) ∧ W.cell? ⟨g, i * 2 + 1, none⟩ = some (.string (str t)))
theorem GrAt.wr {B N n : Nat} {W W' : World} {ao : Option Addr} {bs : List Tx} {K : Nat → Prop} (h : GrAt B N W ao n bs) (hw : Wr K W W') (hK : ∀ k, K k → k < B ∨ N ≤ k) : GrAt B N W' ao n bs := by
  refine ⟨h.1, Nat.le_trans h.2.1 hw.size, h.2.2.imp id ?_⟩
  rintro ⟨g, e, h1, h2, h3⟩
  have hl := h.2.1
  have hb : ∀ i, W'.cell? ⟨g, i, none⟩ = W.cell? ⟨g, i, none⟩ := fun i => World.cell?_of_block (hw.block g (by omega) fun hk => by have := hK _ hk; omega)
  exact ⟨g, e, h1, h2, fun i t ht => by
    obtain ⟨k, c1, c2⟩ := h3 i t ht
    exact ⟨k, (hb _).trans c1, (hb _).trans c2⟩⟩
theorem GrAt.below {B N n : Nat} {W W' : World} {ao : Option Addr} {bs : List Tx} (h : GrAt B N W ao n bs) (hb : Below W.heap.size W W') : GrAt B N W' ao n bs := h.wr (K := fun _ => False) (Wr.of_below hb) (fun _ h => h.elim)
theorem GRow.grAt {B f n cp : Nat} {W : World} {ao : Option Addr} {bs : List Tx} (h : GRow W B (.slice ao n cp) (grps f bs)) (hn : n = bs.length) : GrAt B W.heap.size W ao n bs := by
  refine ⟨hn, Nat.le_refl _, ?_⟩
  rcases h.2 with ⟨-, h2⟩ | ⟨g, cap, cur, h1, h3, h4, _⟩
  · rw [grps_length] at h2; exact .inl (List.eq_nil_of_length_eq_zero h2)
  · cases h1
    refine .inr ⟨g, rfl, h3, (Array.getElem?_eq_some_iff.1 h4).1, fun i t ht => ⟨f + i, ?_⟩⟩
    have := cellsG_at (grps f bs) i _ (grps_at ht)
    have hi := (List.getElem?_eq_some_iff.1 (grps_at (f := f) ht)).1
    rw [World.ownsRow.cellAt h _ (by omega), World.ownsRow.cellAt h _ (by omega)]
    exact this
theorem LW.bounded {P : Nat → Prop} {w : World} {l b : Nat} {a : Addr} {S : Dk} {L : Lg} (h : LW P w l b a S L) : LW (fun k => P k ∧ k < w.heap.size) w l b a S L :=
  ⟨h.one.bounded, h.log, h.sent, fun hk => h.nl hk.1, fun k hk => h.n1 k hk.1, h.ll⟩
theorem LgEnd.unbound {P : Nat → Prop} {w w' : World} {l b : Nat} {a : Addr} {S : Dk} {L : Lg} (h : LgEnd (fun k => P k ∧ k < w.heap.size) w l b a S L w') : LgEnd P w l b a S L w' := by
  obtain ⟨P', h1, h2, h3⟩ := h
  exact ⟨P', h1, fun k hk => (h2 k hk).imp (·.1) id, h3.mono fun k hk _ => hk.imp (·.1) id⟩
/-- A log, its disk in blocks of P or from N on. -/
def LgAt (N : Nat) (P : Nat → Prop) (w : World) (l b : Nat) (a : Addr) (S : Dk) (L : Lg) (w' : World) : Prop := ∃ P', LW P' w' l b a S L ∧ (∀ k, P' k → P k ∨ N ≤ k) ∧ Wr (fun k => P k ∨ k = l) w w'
/-- The two boxes of read. -/
def RdBox (z l b : Nat) (W : World) : Prop := W.cell? ⟨z, 0, none⟩ = some (.pointer (some ⟨l, 0, none⟩)) ∧ W.cell? ⟨z + 1, 0, none⟩ = some (.pointer (some ⟨b, 0, none⟩)) ∧ z + 2 ≤ W.heap.size
theorem RdBox.wr {z l b : Nat} {W W' : World} {K : Nat → Prop} (h : RdBox z l b W) (hw : Wr K W W') (hK : ∀ k, K k → k < z ∨ z + 2 ≤ k) : RdBox z l b W' := by
  have h1 := h.2.2
  refine ⟨(World.cell?_of_block (hw.block z (by omega) fun hk => by have := hK _ hk; omega)).trans h.1, (World.cell?_of_block (hw.block (z + 1) (by omega) fun hk => by have := hK _ hk; omega)).trans h.2.1, Nat.le_trans h1 hw.size⟩
theorem RdBox.below {z l b : Nat} {W W' : World} (h : RdBox z l b W) (hb : Below W.heap.size W W') : RdBox z l b W' := h.wr (K := fun _ => False) (Wr.of_below hb) (fun _ h => h.elim)
theorem RdBox.start {l b : Nat} {w : World} (t1 t2 : TypeId) : RdBox w.heap.size l b ((w.alloc (.cells #[.pointer (some ⟨l, 0, none⟩)] t1)).alloc (.cells #[.pointer (some ⟨b, 0, none⟩)] t2)) := by
  have e : (w.alloc (.cells #[.pointer (some ⟨l, 0, none⟩)] t1)).heap.size = w.heap.size + 1 := by simp
  refine ⟨(World.cell?_alloc_past _ _ _ (show w.heap.size < _ by rw [e]; omega)).trans (World.cell?_alloc_at _ _ _ 0 rfl), ?_, by simp⟩
  rw [← e]
  exact World.cell?_alloc_at _ _ _ 0 rfl
section
variable {P : Nat → Prop} {w : World} {l b : Nat} {a : Addr} {j : Nat} {S : Dk} {L : Lg}
theorem LW.readC (h : LW P w l b a S L) (hI : S.Inv) : Calls Tryz.prog 24 #[.pointer (some ⟨b, 0, none⟩), .string (str logN)] w (fun e w' => e = .returned (.tuple #[.string (str (S.readT logN)), .int .i64 (S.askE logN)]) ∧ w = w') := by
  obtain ⟨F, d, hp⟩ := h.one
  exact read_any d hI logN logN_len
theorem LW.syncedC (h : LW P w l b a S L) (hI : S.Inv) : Calls Tryz.prog 71 #[.pointer (some ⟨b, 0, none⟩), .string (str logN)] w (fun e w' => e = .returned (.tuple #[.int .i64 (S.readN logN), .int .i64 (S.askE logN)]) ∧ w = w') := by
  obtain ⟨F, d, hp⟩ := h.one
  exact synced_any d hI logN logN_len
/-- What read does behind the scan. -/
def Pl.rdSync (S : Dk) (n pos : Nat) (torn : Bool) : Dk × Int :=
  if torn = true then goL [.trunc logN ((16 + pos : Nat) : Int), .sync logN] S
  else if S.readN logN < n then goL [.sync logN] S else (S, 0)
def Pl.rdLong (S : Dk) (n pos : Nat) (torn : Bool) : Dk × Int :=
  if (rdSync S n pos torn).2 = 0 then goL [.names] (rdSync S n pos torn).1 else rdSync S n pos torn
def Texts (w : World) (base : Nat) (v : Value) (bs : List Tx) : Prop := w.ownsRow base 9 1 v bs.length (bs.map fun t => .string (str t))
def RdEnd (P : Nat → Prop) (w : World) (l b : Nat) (a : Addr) (r : Dk × Int) (L : Lg) (bs : List Tx) (cut : Int) (e : Ending) (w' : World) : Prop :=
  ∃ bv ev base, e = .returned (.tuple #[bv, .int .i64 cut, ev]) ∧ LgEnd P w l b a r.1 L w' ∧ ErrIs (fun _ => False) w w' r.2 ev ∧ Texts w' base bv bs ∧ w.heap.size ≤ base
set_option maxRecDepth 100000 in
set_option maxHeartbeats 8000000 in
theorem read_long0 {f pos : Nat} {bs : List Tx} {s x : Tx} {torn : Bool} (h : LW P w l b a S L) (hPb : ∀ k, P k → k < w.heap.size) (hI : S.Inv) (hS : S.Small j) (hj : j ≤ 4194000) (ha : S.askE logN = 0) (hs : S.readT logN = s) (hx : LogTx s f bs x pos torn) :
    Calls Tryz.prog 40 #[.pointer (some ⟨l, 0, none⟩)] w (RdEnd P w l b a (rdLong S s.length pos torn) { L with size := ((16 + pos : Nat) : Int), last := f - 1 + bs.length } bs ((x.length : Int) - pos)) := by
  have h0 : w.cell? ⟨l, 0, none⟩ = some (.pointer (some ⟨b, 0, none⟩)) := h.log.cell 0
  have hlt := h.log.lt
  have hsl : s.length = 16 + x.length := by rw [hx.eq, List.length_append, headT_length hx.first]
  have hss : str s = str (headT f ++ x) := by rw [hx.eq]
  have hfit := hx.fits
  have hfew := hx.few
  have hf0 := hx.first
  have hps := hx.pos_le
  have h16 : ¬ (((str s).size : Int) < 16) := by rw [str_size]; omega
  have h16' : (16 : Int) ≤ ((str s).size : Int) := by rw [str_size]; omega
  have hmax : (str s).size ≤ maxLen := by rw [str_size]; unfold maxLen; omega
  have hex : (str s).extract 16 (str s).size = str x := by
    apply ba_ext
    rw [Lib.extract_data, str_toList, str_toList, hx.eq, Pl.drop_front (headT_length hx.first), List.take_of_length_le]
    rw [str_size, List.length_append, headT_length hx.first]; omega
  have HRd := Lib.hid fun W (hW : LW P W l b a S L) => hW.readC hI
  rw [ha, hs] at HRd
  have HW := Lib.hid h
  have HX := Lib.hid hx
  have HI := Lib.hid hI
  have HS := Lib.hid hS
  have HH := Lib.hid fun W => head_any 1 W (by omega)
  have HPh := Lib.hid fun W => ph_head (n := f) (by omega) hx.first x hx.fits W
  rw [← hss] at HPh
  have HSc := Lib.hid fun W => scan_any (str x) (by rw [str_size]; exact hx.fits) W
  obtain ⟨R, hR⟩ : ∃ R, rdLong S s.length pos torn = R := ⟨_, rfl⟩
  rw [hR]
  rw [hsl] at hR
  obtain ⟨L2, hL2⟩ : ∃ L2 : Lg, { L with size := ((16 + pos : Nat) : Int), last := f - 1 + bs.length } = L2 := ⟨_, rfl⟩
  rw [hL2]
  obtain ⟨ct, hct⟩ : ∃ ct : Int, (x.length : Int) - pos = ct := ⟨_, rfl⟩
  rw [hct]
  have HR := Lib.hid hR
  have HL2 := Lib.hid hL2
  have HCT := Lib.hid hct
  clear h hI hS hx hss hR hL2 hct
  go_enter Tryz.func40, Tryz.ntmps40
  go_wp2_with fail
  refine (HRd.out _ (HW.out.below (((Below.refl w.heap.size w).alloc (Nat.le_refl _) _).alloc (by simp) _))).mono ?_
  rintro e w1 ⟨rfl, hw1⟩
  have B1 := Lib.hid (show Below w.heap.size w w1 by rw [← hw1]; exact ((Below.refl w.heap.size w).alloc (Nat.le_refl _) _).alloc (by simp) _)
  have BX1 := Lib.hid (show RdBox w.heap.size l b w1 by rw [← hw1]; exact RdBox.start _ _)
  clear hw1
  go_wp2_with fail
  refine (HH.out _).mono ?_
  rintro e w2 ⟨rfl, b2⟩
  have B2 := Lib.hid (B1.out.trans (b2.mono B1.out.size))
  have BX2 := Lib.hid (BX1.out.below b2)
  clear b2
  go_wp2_with fail
  refine (HPh.out _).mono ?_
  rintro e w3 ⟨rfl, b3⟩
  have B3 := Lib.hid (B2.out.trans (b3.mono B2.out.size))
  have BX3 := Lib.hid (BX2.out.below b3)
  clear b3
  go_wp2_with fail
  refine (HSc.out _).mono ?_
  rintro e w4 ⟨gv, rfl, gr, b4⟩
  rw [str_toList, HX.out.scan] at gr
  dsimp only at gr
  simp only [str_toList, HX.out.scan]
  have B4 := Lib.hid (B3.out.trans (b4.mono B3.out.size))
  have BX4 := Lib.hid (BX3.out.below b4)
  obtain ⟨ao, cp, rfl⟩ := gr.shape
  have GR := Lib.hid gr
  have hgl := grps_length bs f
  obtain ⟨gl, hglq⟩ : ∃ gl, (grps f bs).length = gl := ⟨_, rfl⟩
  rw [hglq] at hgl ⊢
  have HGL := Lib.hid hgl
  clear b4 gr
  obtain ⟨wy, hwy⟩ : ∃ wy : Int, (((if torn = true then 251 else 0 : Nat)) : Int) = wy := ⟨_, rfl⟩
  rw [hwy]
  have hgr : gl ≠ 0 → ∃ g, ao = some ⟨g, 0, none⟩ ∧ w4.cell? ⟨g, 0, none⟩ = some (.int .u64 f) ∧ gl ≤ cp := by
    intro h0
    have h1 := GR.out.cells
    have hbs : bs ≠ [] := fun e => h0 (by rw [hgl, e]; rfl)
    obtain ⟨a2, c2, e2, h2⟩ := id h1
    rw [hglq] at e2
    cases e2
    rcases h2 with h2 | ⟨g, rfl, -, h2⟩
    · have := grps_length bs f; rw [h2] at this; exact absurd (List.length_eq_zero_iff.1 this.symm) hbs
    · refine ⟨g, rfl, ?_, ?_⟩
      · rcases bs with _ | ⟨c, r⟩
        · exact absurd rfl hbs
        · exact (h2 0 (f, c) rfl).1
      · rcases GR.out.2 with ⟨e3, -⟩ | ⟨g', cap, cur, e3, -, -, h5, -⟩
        · cases e3
        · cases e3; rw [hglq] at h5; exact h5
  have HGR := Lib.hid hgr
  have HWY := Lib.hid hwy
  clear hgr hwy hgl hglq
  go_upto_region 12 with fail
  go_cut [88] from 70 to 88 (fun v wx => v = .bool false ∧ wx = w4)
  case first =>
    have hwy := HWY.out
    by_cases hgz : gl = 0
    · subst hgz
      cases torn with
      | true =>
        obtain rfl : wy = 251 := by rw [← hwy]; rfl
        go_wp2_with fail
        go_meet
        exact ⟨rfl, rfl⟩
      | false =>
        obtain rfl : wy = 0 := by rw [← hwy]; rfl
        go_wp2_with fail
        go_meet
        exact ⟨rfl, rfl⟩
    · have hgz' : (0 : Int) < (gl : Int) := by omega
      obtain ⟨g, rfl, hg0, hcp⟩ := HGR.out hgz
      cases torn with
      | true =>
        obtain rfl : wy = 251 := by rw [← hwy]; rfl
        go_wp2_with fail
        go_meet
        exact ⟨rfl, rfl⟩
      | false =>
        obtain rfl : wy = 0 := by rw [← hwy]; rfl
        go_wp2_with fail
        go_meet
        exact ⟨rfl, rfl⟩
  case rest =>
    obtain ⟨rfl, rfl⟩ := hcut
    rename World => w5
    have LW4 := Lib.hid (HW.out.below B4.out)
    have h54 : w5.cell? ⟨l, 5, none⟩ = some (.int .i64 L.size) := LW4.out.log.cell 5
    have h34 : w5.cell? ⟨l, 3, none⟩ = some (.int .u64 L.last) := LW4.out.log.cell 3
    have f54 := LW4.out.log.free 5
    have f34 := LW4.out.log.free 3
    have hx1 := BX4.out.1
    have hglb : gl ≤ 4611686018427387904 := by have := HGL.out; omega
    have wa0 : IntKind.i64.wrap (16 + (pos : Int)) = 16 + (pos : Int) := by unfold IntKind.wrap; simp [IntKind.signed, IntKind.bits]; omega
    have wa1 : wrap64 (16 + (pos : Int)) = 16 + (pos : Int) := by unfold wrap64; omega
    have wa2 : IntKind.u64.wrap ((f : Int) - 1) = (f : Int) - 1 := by unfold IntKind.wrap; simp [IntKind.signed, IntKind.bits]; omega
    have wa3 : IntKind.u64.wrap (gl : Int) = (gl : Int) := by unfold IntKind.wrap; simp [IntKind.signed, IntKind.bits]; omega
    have wa4 : IntKind.u64.wrap ((f : Int) - 1 + (gl : Int)) = (f : Int) - 1 + (gl : Int) := by unfold IntKind.wrap; simp [IntKind.signed, IntKind.bits]; omega
    go_upto_region 14 with fail
    go_cut [] from 90 to 103 (fun wx => wx = ((w5.setCell ⟨l, 5, none⟩ (.int .i64 (16 + (pos : Int)))).setCell ⟨l, 3, none⟩ (.int .u64 ((f : Int) - 1 + (gl : Int)))).drew)
    case first =>
      have hk1 : ∀ v, (w5.setCell ⟨l, 5, none⟩ v).cell? ⟨w.heap.size, 0, none⟩ = some (.pointer (some ⟨l, 0, none⟩)) := fun v => (BX4.out.wr (Wr.setCell (F := fun k => k = l) (Wr.refl _ w5) (p := ⟨l, 5, none⟩) rfl v) (fun k hk => by omega)).1
      have hk2 : ∀ v u, ((w5.setCell ⟨l, 5, none⟩ v).setCell ⟨l, 3, none⟩ u).cell? ⟨w.heap.size, 0, none⟩ = some (.pointer (some ⟨l, 0, none⟩)) := fun v u => (BX4.out.wr (Wr.setCell (F := fun k => k = l) (Wr.setCell (F := fun k => k = l) (Wr.refl _ w5) (p := ⟨l, 5, none⟩) rfl v) (p := ⟨l, 3, none⟩) rfl u) (fun k hk => by omega)).1
      have HK1 := Lib.hid hk1
      have HK2 := Lib.hid hk2
      have HX1 := Lib.hid hx1
      clear hk1 hk2
      refine wp_region_held_drew (S := (fun W => W.cell? ⟨w.heap.size, 0, none⟩ = some (.pointer (some ⟨l, 0, none⟩)))) (by kernel_rfl) ?_ (fun hHeld => ?_)
      · first | exact HX1.out | exact HK1.out _ | exact HK2.out _ _
      refine wpAnyH_take (i := 0) (oi := (Go.Oper.mk (some 90) (Go.Op.load 22 (Go.Operand.tmp 1)) 22 _ #[] none)) (v := ?_) rfl (by kernel_rfl) (by kernel_rfl) (by kernel_rfl) (fun _ _ _ h => h) (Or.inl ⟨by rfl, ?_⟩) hHeld ?_
      rotate_left
      · intro w hSw; (try dsimp only at hSw); go_simp; (try with_reducible rfl)
      simp only [Act.put, List.setIfInBounds_toArray, List.set_cons_zero, List.set_cons_succ]
      refine wpAnyH_take (i := 1) (oi := (Go.Oper.mk (some 91) (Go.Op.load 22 (Go.Operand.tmp 1)) 22 _ #[Go.Edge.mk 12 (Go.Ground.gcOnly Go.Departure.lateStores)] none)) (v := ?_) rfl (by kernel_rfl) (by kernel_rfl) (by kernel_rfl) (fun _ _ _ h => h) (Or.inl ⟨by rfl, ?_⟩) hHeld ?_
      rotate_left
      · intro w hSw; (try dsimp only at hSw); go_simp; (try with_reducible rfl)
      simp only [Act.put, List.setIfInBounds_toArray, List.set_cons_zero, List.set_cons_succ]
      refine wpAnyH_take (i := 2) (oi := (Go.Oper.mk (some 92) (Go.Op.move (Go.Operand.tmp 11)) 3 _ #[] none)) (v := ?_) rfl (by kernel_rfl) (by kernel_rfl) (by kernel_rfl) (fun _ _ _ h => h) (Or.inl ⟨by rfl, ?_⟩) hHeld ?_
      rotate_left
      · intro w hSw; (try dsimp only at hSw); go_simp; (try with_reducible rfl)
      simp only [Act.put, List.setIfInBounds_toArray, List.set_cons_zero, List.set_cons_succ]
      refine wpAnyH_take (i := 3) (oi := (Go.Oper.mk (some 93) (Go.Op.binOp Go.BinOp.add 3 (Go.Operand.const (Go.Value.int Go.IntKind.i64 16)) (Go.Operand.tmp 92) 3) 3 _ #[Go.Edge.mk 2 Go.Ground.data] none)) (v := ?_) rfl (by kernel_rfl) (by kernel_rfl) (by kernel_rfl) (fun _ _ _ h => h) (Or.inl ⟨by rfl, ?_⟩) hHeld ?_
      rotate_left
      · intro w hSw; (try dsimp only at hSw); go_simp; (try with_reducible rfl)
      simp only [Act.put, List.setIfInBounds_toArray, List.set_cons_zero, List.set_cons_succ]
      refine wpAnyH_take (i := 4) (oi := (Go.Oper.mk (some 94) (Go.Op.move (Go.Operand.tmp 9)) 24 _ #[Go.Edge.mk 12 (Go.Ground.gcOnly Go.Departure.lateStores)] none)) (v := ?_) rfl (by kernel_rfl) (by kernel_rfl) (by kernel_rfl) (fun _ _ _ h => h) (Or.inl ⟨by rfl, ?_⟩) hHeld ?_
      rotate_left
      · intro w hSw; (try dsimp only at hSw); go_simp; (try with_reducible rfl)
      simp only [Act.put, List.setIfInBounds_toArray, List.set_cons_zero, List.set_cons_succ]
      refine wpAnyH_take (i := 5) (oi := (Go.Oper.mk (some 95) (Go.Op.binOp Go.BinOp.sub 24 (Go.Operand.tmp 94) (Go.Operand.const (Go.Value.int Go.IntKind.u64 1)) 24) 24 _ #[Go.Edge.mk 4 Go.Ground.data, Go.Edge.mk 12 (Go.Ground.gcOnly Go.Departure.lateStores)] none)) (v := ?_) rfl (by kernel_rfl) (by kernel_rfl) (by kernel_rfl) (fun _ _ _ h => h) (Or.inl ⟨by rfl, ?_⟩) hHeld ?_
      rotate_left
      · intro w hSw; (try dsimp only at hSw); go_simp; (try with_reducible rfl)
      simp only [Act.put, List.setIfInBounds_toArray, List.set_cons_zero, List.set_cons_succ]
      refine wpAnyH_take (i := 6) (oi := (Go.Oper.mk (some 96) (Go.Op.move (Go.Operand.tmp 10)) 118 _ #[] none)) (v := ?_) rfl (by kernel_rfl) (by kernel_rfl) (by kernel_rfl) (fun _ _ _ h => h) (Or.inl ⟨by rfl, ?_⟩) hHeld ?_
      rotate_left
      · intro w hSw; (try dsimp only at hSw); go_simp; (try with_reducible rfl)
      simp only [Act.put, List.setIfInBounds_toArray, List.set_cons_zero, List.set_cons_succ]
      refine wpAnyH_take (i := 7) (oi := (Go.Oper.mk (some 97) (Go.Op.call (Go.Call.mk (Go.Callee.builtin Go.Builtin.len) #[Go.Operand.tmp 96] #[118])) 3 _ #[Go.Edge.mk 6 Go.Ground.data] none)) (v := ?_) rfl (by kernel_rfl) (by kernel_rfl) (by kernel_rfl) (fun _ _ _ h => h) (Or.inl ⟨by rfl, ?_⟩) hHeld ?_
      rotate_left
      · intro w hSw; (try dsimp only at hSw); go_simp; (try with_reducible rfl)
      simp only [Act.put, List.setIfInBounds_toArray, List.set_cons_zero, List.set_cons_succ]
      refine wpAnyH_take (i := 8) (oi := (Go.Oper.mk (some 98) (Go.Op.convert 3 24 (Go.Operand.tmp 97)) 24 _ #[Go.Edge.mk 7 Go.Ground.data, Go.Edge.mk 12 (Go.Ground.gcOnly Go.Departure.lateStores)] none)) (v := ?_) rfl (by kernel_rfl) (by kernel_rfl) (by kernel_rfl) (fun _ _ _ h => h) (Or.inl ⟨by rfl, ?_⟩) hHeld ?_
      rotate_left
      · intro w hSw; (try dsimp only at hSw); go_simp; (try with_reducible rfl)
      simp only [Act.put, List.setIfInBounds_toArray, List.set_cons_zero, List.set_cons_succ]
      refine wpAnyH_take (i := 9) (oi := (Go.Oper.mk (some 99) (Go.Op.binOp Go.BinOp.add 24 (Go.Operand.tmp 95) (Go.Operand.tmp 98) 24) 24 _ #[Go.Edge.mk 5 Go.Ground.data, Go.Edge.mk 8 Go.Ground.data, Go.Edge.mk 12 (Go.Ground.gcOnly Go.Departure.lateStores)] none)) (v := ?_) rfl (by kernel_rfl) (by kernel_rfl) (by kernel_rfl) (fun _ _ _ h => h) (Or.inl ⟨by rfl, ?_⟩) hHeld ?_
      rotate_left
      · intro w hSw; (try dsimp only at hSw); go_simp; (try with_reducible rfl)
      simp only [Act.put, List.setIfInBounds_toArray, List.set_cons_zero, List.set_cons_succ]
      refine wpAnyH_take (i := 10) (oi := (Go.Oper.mk (some 100) (Go.Op.nilCheck (Go.Operand.tmp 90)) 0 _ #[Go.Edge.mk 0 Go.Ground.data, Go.Edge.mk 0 Go.Ground.phase, Go.Edge.mk 1 (Go.Ground.textOnly Go.Departure.lateStores), Go.Edge.mk 2 Go.Ground.phase, Go.Edge.mk 3 Go.Ground.phase, Go.Edge.mk 4 (Go.Ground.textOnly Go.Departure.lateStores), Go.Edge.mk 5 (Go.Ground.textOnly Go.Departure.lateStores), Go.Edge.mk 6 (Go.Ground.textOnly Go.Departure.lateStores), Go.Edge.mk 7 (Go.Ground.textOnly Go.Departure.lateStoresUnsure), Go.Edge.mk 8 (Go.Ground.textOnly Go.Departure.lateStores), Go.Edge.mk 9 (Go.Ground.textOnly Go.Departure.lateStores)] none)) (v := ?_) rfl (by kernel_rfl) (by kernel_rfl) (by kernel_rfl) (fun _ _ _ h => h) (Or.inl ⟨by rfl, ?_⟩) hHeld ?_
      rotate_left
      · intro w hSw; (try dsimp only at hSw); go_simp; (try with_reducible rfl)
      simp only [Act.put, List.setIfInBounds_toArray, List.set_cons_zero, List.set_cons_succ]
      refine wpAnyH_take (i := 11) (oi := (Go.Oper.mk (some 101) (Go.Op.fieldAddr 71 (Go.Operand.tmp 100) 5) 0 _ #[Go.Edge.mk 10 Go.Ground.data, Go.Edge.mk 0 Go.Ground.phase, Go.Edge.mk 1 (Go.Ground.textOnly Go.Departure.lateStores), Go.Edge.mk 2 Go.Ground.phase, Go.Edge.mk 3 Go.Ground.phase, Go.Edge.mk 4 (Go.Ground.textOnly Go.Departure.lateStores), Go.Edge.mk 5 (Go.Ground.textOnly Go.Departure.lateStores), Go.Edge.mk 6 (Go.Ground.textOnly Go.Departure.lateStores), Go.Edge.mk 7 (Go.Ground.textOnly Go.Departure.lateStoresUnsure), Go.Edge.mk 8 (Go.Ground.textOnly Go.Departure.lateStores), Go.Edge.mk 9 (Go.Ground.textOnly Go.Departure.lateStores)] none)) (v := ?_) rfl (by kernel_rfl) (by kernel_rfl) (by kernel_rfl) (fun _ _ _ h => h) (Or.inl ⟨by rfl, ?_⟩) hHeld ?_
      rotate_left
      · intro w hSw; (try dsimp only at hSw); go_simp; (try with_reducible rfl)
      simp only [Act.put, List.setIfInBounds_toArray, List.set_cons_zero, List.set_cons_succ]
      refine wpAnyH_ready (rs := [12]) (by kernel_rfl) (by simp) ?_
      refine (AllReadyH.cons (o := (Go.Oper.mk none (Go.Op.store 3 (Go.Operand.tmp 101) (Go.Operand.tmp 93)) 0 _ #[Go.Edge.mk 11 Go.Ground.data, Go.Edge.mk 3 Go.Ground.data, Go.Edge.mk 0 Go.Ground.phase, Go.Edge.mk 1 (Go.Ground.textOnly Go.Departure.lateStores), Go.Edge.mk 2 Go.Ground.phase, Go.Edge.mk 3 Go.Ground.phase, Go.Edge.mk 4 (Go.Ground.textOnly Go.Departure.lateStores), Go.Edge.mk 5 (Go.Ground.textOnly Go.Departure.lateStores), Go.Edge.mk 6 (Go.Ground.textOnly Go.Departure.lateStores), Go.Edge.mk 7 (Go.Ground.textOnly Go.Departure.lateStoresUnsure), Go.Edge.mk 8 (Go.Ground.textOnly Go.Departure.lateStores), Go.Edge.mk 9 (Go.Ground.textOnly Go.Departure.lateStores)] none)) rfl (fun K hK => ?_) AllReadyH.nil)
      · skip
        go_simp
        refine hK.out _ _ ?_ (fun hHeld => ?_)
        · first | exact HX1.out | exact HK1.out _ | exact HK2.out _ _
        clear hK K
        (try simp only [Act.put, List.setIfInBounds_toArray, List.set_cons_zero, List.set_cons_succ])
        refine wpAnyH_take (i := 13) (oi := (Go.Oper.mk (some 102) (Go.Op.nilCheck (Go.Operand.tmp 91)) 0 _ #[Go.Edge.mk 1 Go.Ground.data, Go.Edge.mk 0 Go.Ground.phase, Go.Edge.mk 1 Go.Ground.phase, Go.Edge.mk 2 Go.Ground.phase, Go.Edge.mk 3 Go.Ground.phase, Go.Edge.mk 4 Go.Ground.phase, Go.Edge.mk 5 Go.Ground.phase, Go.Edge.mk 6 Go.Ground.phase, Go.Edge.mk 7 Go.Ground.phase, Go.Edge.mk 8 Go.Ground.phase, Go.Edge.mk 9 Go.Ground.phase, Go.Edge.mk 10 Go.Ground.phase, Go.Edge.mk 11 Go.Ground.phase, Go.Edge.mk 12 Go.Ground.phase] none)) (v := ?_) rfl (by kernel_rfl) (by kernel_rfl) (by kernel_rfl) (fun _ _ _ h => h) (Or.inl ⟨by rfl, ?_⟩) hHeld ?_
        rotate_left
        · intro w hSw; (try dsimp only at hSw); go_simp; (try with_reducible rfl)
        simp only [Act.put, List.setIfInBounds_toArray, List.set_cons_zero, List.set_cons_succ]
        refine wpAnyH_take (i := 14) (oi := (Go.Oper.mk (some 103) (Go.Op.fieldAddr 71 (Go.Operand.tmp 102) 3) 0 _ #[Go.Edge.mk 13 Go.Ground.data, Go.Edge.mk 0 Go.Ground.phase, Go.Edge.mk 1 Go.Ground.phase, Go.Edge.mk 2 Go.Ground.phase, Go.Edge.mk 3 Go.Ground.phase, Go.Edge.mk 4 Go.Ground.phase, Go.Edge.mk 5 Go.Ground.phase, Go.Edge.mk 6 Go.Ground.phase, Go.Edge.mk 7 Go.Ground.phase, Go.Edge.mk 8 Go.Ground.phase, Go.Edge.mk 9 Go.Ground.phase, Go.Edge.mk 10 Go.Ground.phase, Go.Edge.mk 11 Go.Ground.phase, Go.Edge.mk 12 Go.Ground.phase] none)) (v := ?_) rfl (by kernel_rfl) (by kernel_rfl) (by kernel_rfl) (fun _ _ _ h => h) (Or.inl ⟨by rfl, ?_⟩) hHeld ?_
        rotate_left
        · intro w hSw; (try dsimp only at hSw); go_simp; (try with_reducible rfl)
        simp only [Act.put, List.setIfInBounds_toArray, List.set_cons_zero, List.set_cons_succ]
        refine wpAnyH_ready (rs := [15]) (by kernel_rfl) (by simp) ?_
        refine (AllReadyH.cons (o := (Go.Oper.mk none (Go.Op.store 24 (Go.Operand.tmp 103) (Go.Operand.tmp 99)) 0 _ #[Go.Edge.mk 14 Go.Ground.data, Go.Edge.mk 9 Go.Ground.data, Go.Edge.mk 12 Go.Ground.chain, Go.Edge.mk 0 Go.Ground.phase, Go.Edge.mk 1 Go.Ground.phase, Go.Edge.mk 2 Go.Ground.phase, Go.Edge.mk 3 Go.Ground.phase, Go.Edge.mk 4 Go.Ground.phase, Go.Edge.mk 5 Go.Ground.phase, Go.Edge.mk 6 Go.Ground.phase, Go.Edge.mk 7 Go.Ground.phase, Go.Edge.mk 8 Go.Ground.phase, Go.Edge.mk 9 Go.Ground.phase, Go.Edge.mk 10 Go.Ground.phase, Go.Edge.mk 11 Go.Ground.phase, Go.Edge.mk 12 Go.Ground.phase] none)) rfl (fun K hK => ?_) AllReadyH.nil)
        · skip
          go_simp
          refine hK.out _ _ ?_ (fun hHeld => ?_)
          · first | exact HX1.out | exact HK1.out _ | exact HK2.out _ _
          clear hK K
          (try simp only [Act.put, List.setIfInBounds_toArray, List.set_cons_zero, List.set_cons_succ])
          refine wpAnyH_done (by kernel_rfl) ?_ _
          go_wp2_with fail
          go_meet
          exact rfl
    case rest =>
      have hv3 : ((f : Int) - 1 + (gl : Int)) = ((f - 1 + bs.length : Nat) : Int) := by have := HGL.out; omega
      have hv5 : (16 + (pos : Int)) = ((16 + pos : Nat) : Int) := by omega
      rw [hv3, hv5] at hcut
      have lw5 : LW P wc l b a S L2 := by
        rw [hcut, ← HL2.out]
        exact ((((HW.out.below B4.out).put (L' := { L with size := ((16 + pos : Nat) : Int) }) 5 _ rfl).1.put (L' := { L with size := ((16 + pos : Nat) : Int), last := f - 1 + bs.length }) 3 _ rfl).1).drewN 1
      have w45 : Wr (fun k => k = l) w5 wc := by
        rw [hcut]
        exact (Wr.setCell (F := fun k => k = l) (Wr.setCell (F := fun k => k = l) (Wr.refl _ w5) (p := ⟨l, 5, none⟩) rfl _) (p := ⟨l, 3, none⟩) rfl _).drewN 1
      have W5 := Lib.hid (((Wr.of_below (F := fun k => P k ∨ k = l) B4.out).trans w45 (fun k hk => .inl (.inr hk))))
      have BX5 := Lib.hid (BX4.out.wr w45 fun k hk => by omega)
      have ga5 : GrAt w3.heap.size w5.heap.size wc ao gl bs := ⟨HGL.out, ((GR.out.grAt (grps_length _ _)).wr w45 fun k hk => by have := B3.out.size; omega).2⟩
      have hNN : w5.heap.size = wc.heap.size := by rw [hcut]; simp [World.setCell]
      rw [hNN] at ga5
      have GA5 := Lib.hid ga5
      have BZ3 := Lib.hid B3.out.size
      have LW5 := Lib.hid lw5
      have HSy := Lib.hid (lw5.syncedC HI.out)
      rw [ha] at HSy
      have hb5 := BX5.out.2.1
      have hsyn : (S.readN logN : Int) < ((str s).size : Int) ↔ S.readN logN < 16 + x.length := by rw [str_size, hsl]; omega
      have HSYN := Lib.hid hsyn
      clear hcut lw5 w45 ga5 hNN h54 h34 f54 f34 hx1 hv3 hv5 wa0 wa1 wa2 wa3 wa4 GR HGR BX4 LW4 hsyn
      go_wp2_with fail
      refine HSy.out.mono ?_
      rintro e w6 ⟨rfl, rfl⟩
      obtain ⟨R1, hR1⟩ : ∃ R1, rdSync S (16 + x.length) pos torn = R1 := ⟨_, rfl⟩
      have HI1 : Hid R1.1.Inv := Lib.hid (by
        rw [← hR1]; unfold rdSync
        split
        · exact goL_inv _ HI.out
        · split
          · exact goL_inv _ HI.out
          · exact HI.out)
      have HS1 : Hid (R1.1.Small (j + 2)) := Lib.hid (by
        rw [← hR1]; unfold rdSync
        split
        · refine goL_small (xs := [.trunc logN ((16 + pos : Nat) : Int), .sync logN]) (fun x hx => ?_) HS.out
          simp only [List.mem_cons, List.not_mem_nil, or_false] at hx
          rcases hx with rfl | rfl
          · exact logN_len
          · exact logN_len
        · split
          · refine (goL_small (xs := [.sync logN]) (fun x hx => ?_) HS.out).mono (by simp)
            simp only [List.mem_cons, List.not_mem_nil, or_false] at hx
            rcases hx with rfl
            exact logN_len
          · exact HS.out.mono (by omega))
      have HR1 := Lib.hid hR1
      obtain ⟨sy, hsy⟩ : ∃ sy, S.readN logN = sy := ⟨_, rfl⟩
      rw [hsy]
      rw [hsy] at HSYN
      have HSY := Lib.hid hsy
      clear hR1 hsy
      rename World => w6
      go_upto_region 18 with fail
      iterate 8 go_step
      go_cut [14] from 113 to 129 (fun v wx => LgAt w6.heap.size P w l b a R1.1 L2 wx ∧ ErrIs (fun _ => False) w wx R1.2 v ∧ RdBox w.heap.size l b wx ∧ GrAt w3.heap.size w6.heap.size wx ao gl bs)
      case first =>
        have hhyp := HWY.out
        have hz6 := B4.out.size
        have hzw := W5.out.size
        have hPlt : ∀ k, w.heap.size ≤ k → ¬ (P k ∧ k < w6.heap.size) := fun k hk h => by have := hPb k h.1; omega
        have hHl : ¬ (P l ∧ l < w6.heap.size) := fun h => HW.out.nl h.1
        have hbz := BX5.out.2.2
        cases torn with
        | true =>
          obtain rfl : wy = 251 := by rw [← hhyp]; rfl
          go_wp2_with fail
          refine (syncs_any _ _).mono ?_
          rintro e w7 ⟨p, rfl, hp, hpl, b7⟩
          have hp := Lib.hid hp
          have B7 := Lib.hid b7
          clear b7
          go_wp2_with fail
          have h67 := B7.out.size
          have b8 := B7.out.alloc B7.out.size (.cells #[.func (.func 72) #[] #[.pointer (some ⟨w.heap.size + 1, 0, none⟩), .pointer (some ⟨w.heap.size, 0, none⟩)], .func (.func 75) #[] #[.pointer (some ⟨p, 0, none⟩)]] 32)
          have bx8 := BX5.out.below b8
          have l8 := (LW5.out.below b8).log
          rw [← HL2.out] at l8
          have hup : ∀ (k : Nat) (o : Obj), k < w7.heap.size → k < (w7.alloc o).heap.size := fun k o hk => by simp; omega
          refine (LW5.out.each2 (n := 2) (xs := [.trunc logN ((16 + pos : Nat) : Int), .sync logN]) (vs := [.func (.func 72) #[] #[.pointer (some ⟨w.heap.size + 1, 0, none⟩), .pointer (some ⟨w.heap.size, 0, none⟩)], .func (.func 75) #[] #[.pointer (some ⟨p, 0, none⟩)]])
            b8 HI.out HS.out (by omega) (by omega) (alloc_here _ _) B7.out.size rfl rfl
            (steps_of2 (step_rd2 (L := { L with size := ((16 + pos : Nat) : Int), last := f - 1 + bs.length }) bx8.2.1 bx8.1 (hup _ _ (by omega)) (hPlt _ (by omega)) (hup _ _ (by omega)) (hPlt _ (by omega)) l8 hHl)
              (step_sync ((World.cell?_alloc_past _ _ _ hpl.2).trans hp.out) (hup _ _ hpl.2) (fun h => by omega)))).mono ?_
          rintro e w9 ⟨v, P9, rfl, lw9, k9, r9, ev9, x9⟩
          have hr1 := HR1.out
          unfold rdSync at hr1
          rw [if_pos rfl] at hr1
          rw [hr1] at lw9 ev9
          have key := And.intro (show LgAt w6.heap.size P w l b a R1.1 L2 w9 from ⟨P9, lw9, k9, W5.out.trans r9 (fun k hk => .inl hk)⟩) (And.intro ((show ErrIs (fun _ => False) w6 w9 R1.2 v from ev9.imp id (fun ⟨a1, f1, a2, a3, a4, a5, _⟩ => ⟨a1, f1, a2, a3, a4, a5, fun h => h⟩)).early hzw) (And.intro (bx8.wr x9 (fun k hk => by have := hPb k hk.1; omega)) ((GA5.out.below b8).wr x9 (fun k hk => by have := hPb k hk.1; have := BZ3.out; omega))))
          have KEY := Lib.hid key
          clear key lw9 k9 r9 ev9 x9 l8 bx8 b8 hp hpl
          go_wp2_with fail
          go_meet
          exact KEY.out
        | false =>
          obtain rfl : wy = 0 := by rw [← hhyp]; rfl
          have hr1 := HR1.out
          unfold rdSync at hr1
          rw [if_neg (by decide), HSY.out] at hr1
          by_cases hsn : sy < 16 + x.length
          · have hsi := HSYN.out.2 hsn
            rw [if_pos hsn] at hr1
            go_wp2_with fail
            refine (syncs_any _ _).mono ?_
            rintro e w7 ⟨p, rfl, hp, hpl, b7⟩
            have hp := Lib.hid hp
            have B7 := Lib.hid b7
            clear b7
            go_wp2_with fail
            have h67 := B7.out.size
            have b8 := B7.out.alloc B7.out.size (.cells #[.func (.func 75) #[] #[.pointer (some ⟨p, 0, none⟩)]] 32)
            have bx8 := BX5.out.below b8
            have hup : ∀ (k : Nat) (o : Obj), k < w7.heap.size → k < (w7.alloc o).heap.size := fun k o hk => by simp; omega
            refine (LW5.out.each2 (n := 1) (xs := [.sync logN]) (vs := [.func (.func 75) #[] #[.pointer (some ⟨p, 0, none⟩)]])
              b8 HI.out HS.out (by omega) (by omega) (alloc_here _ _) B7.out.size rfl rfl
              (steps_of1 (step_sync ((World.cell?_alloc_past _ _ _ hpl.2).trans hp.out) (hup _ _ hpl.2) (fun h => by omega)))).mono ?_
            rintro e w9 ⟨v, P9, rfl, lw9, k9, r9, ev9, x9⟩
            rw [hr1] at lw9 ev9
            have key := And.intro (show LgAt w6.heap.size P w l b a R1.1 L2 w9 from ⟨P9, lw9, k9, W5.out.trans r9 (fun k hk => .inl hk)⟩) (And.intro ((show ErrIs (fun _ => False) w6 w9 R1.2 v from ev9.imp id (fun ⟨a1, f1, a2, a3, a4, a5, _⟩ => ⟨a1, f1, a2, a3, a4, a5, fun h => h⟩)).early hzw) (And.intro (bx8.wr x9 (fun k hk => by have := hPb k hk.1; omega)) ((GA5.out.below b8).wr x9 (fun k hk => by have := hPb k hk.1; have := BZ3.out; omega))))
            have KEY := Lib.hid key
            clear key lw9 k9 r9 ev9 x9 bx8 b8 hp hpl hsi
            go_wp2_with fail
            go_meet
            exact KEY.out
          · have hsi : ¬ (sy : Int) < ((str s).size : Int) := fun h => hsn (HSYN.out.1 h)
            rw [if_neg hsn] at hr1
            go_wp2_with fail
            go_meet
            subst hr1
            exact ⟨⟨P, LW5.out, fun k hk => .inl hk, W5.out⟩, .inl ⟨rfl, rfl⟩, BX5.out, GA5.out⟩
      case rest =>
        obtain ⟨hle, hev, hbx, hga⟩ := hcut
        rename World => w7
        have hle := Lib.hid hle
        have hga := Lib.hid hga
        have hbx' := Lib.hid hbx
        have hz2 := BX5.out.2.2
        go_upto_region 23 with fail
        obtain ⟨bq, hbq⟩ : ∃ bq, decide (R1.2 = 0) = bq := ⟨_, rfl⟩
        have HBQ := Lib.hid hbq
        go_cut [131] from 130 to 130 (fun v wx => v = .bool bq ∧ wx = w7)
        case first =>
          rcases hev with ⟨hc, rfl⟩ | ⟨hc, f', rfl, hf1, hf2, hf3, hf4⟩
          · obtain rfl : bq = true := by rw [← hbq]; exact decide_eq_true hc
            clear hc hbq
            go_wp2_with fail
            go_meet
            exact ⟨rfl, rfl⟩
          · obtain rfl : bq = false := by rw [← hbq]; exact decide_eq_false hc
            clear hc hbq hf1
            go_wp2_with fail
            go_meet
            exact ⟨rfl, rfl⟩
        obtain ⟨rfl, rfl⟩ := hcut
        rename World => w7
        clear hbq
        go_upto_if 131 with fail
        go_cut [14] from 132 to 135 (fun v wx => LgAt w6.heap.size P w l b a R.1 L2 wx ∧ ErrIs (fun _ => False) w wx R.2 v ∧ RdBox w.heap.size l b wx ∧ GrAt w3.heap.size w6.heap.size wx ao gl bs)
        case first =>
          have hr := HR.out
          unfold rdLong at hr
          rw [HR1.out] at hr
          have hbq := HBQ.out
          rcases hev with ⟨hc, rfl⟩ | ⟨hc, f', rfl, hf1, hf2, hf3, hf4⟩
          · rw [if_pos hc] at hr
            obtain rfl : bq = true := by rw [← hbq]; exact decide_eq_true hc
            clear hbq
            obtain ⟨P7, lw7, k7, r7⟩ := hle.out
            have hb7 := hbx.2.1
            have LW7 := Lib.hid lw7
            have hnw := hga.out.2.1
            have h67 : w.heap.size ≤ w6.heap.size := by omega
            have b8 := (Below.refl w7.heap.size w7).alloc (Nat.le_refl _) (.cells #[.func (.func 39) #[.pointer (some ⟨b, 0, none⟩)] #[]] 32)
            have HY := Lib.hid (fun W cp (hW : W = w7.alloc (.cells #[.func (.func 39) #[.pointer (some ⟨b, 0, none⟩)] #[]] 32)) => LW7.out.each2 (w3 := W) (g := w7.heap.size) (cp := cp) (n := 1) (xs := [.names]) (vs := [.func (.func 39) #[.pointer (some ⟨b, 0, none⟩)] #[]]) (hW ▸ b8) HI1.out HS1.out (by omega) (by omega) (hW ▸ alloc_here _ _) (Nat.le_refl _) rfl rfl (steps_of1 (step_names b)))
            have K7 := Lib.hid k7
            have R7 := Lib.hid r7
            have HRq := Lib.hid hr
            clear lw7 k7 r7 hr
            go_wp2_with fail
            refine (HY.out _ _ rfl).mono ?_
            rintro e w9 ⟨v, P9, rfl, lw9, k9, r9, ev9, x9⟩
            rw [HRq.out] at lw9 ev9
            have hK : ∀ k, (P7 k ∧ k < w7.heap.size) → k < w.heap.size ∨ w6.heap.size ≤ k := fun k hk => (K7.out k hk.1).imp (hPb k) id
            have key := And.intro (show LgAt w6.heap.size P w l b a R.1 L2 w9 from ⟨P9, lw9, fun k hk => (k9 k hk).elim (K7.out k) (fun h => .inr (Nat.le_trans hnw h)), R7.out.trans r9 fun k hk => hk.elim (fun h => (K7.out k h).imp .inl (fun h => Nat.le_trans h67 h)) (fun h => .inl (.inr h))⟩)
              (And.intro ((show ErrIs (fun _ => False) w7 w9 R.2 v from ev9.imp id (fun ⟨a1, f1, a2, a3, a4, a5, _⟩ => ⟨a1, f1, a2, a3, a4, a5, fun h => h⟩)).early (Nat.le_trans h67 hnw))
              (And.intro ((hbx'.out.below b8).wr x9 (fun k hk => by have := hK k hk; omega)) ((hga.out.below b8).wr x9 (fun k hk => by have := hK k hk; have := BZ3.out; omega))))
            have KEY := Lib.hid key
            clear key lw9 k9 r9 ev9 x9 b8
            go_wp2_with fail
            go_meet
            exact KEY.out
          · rw [if_neg hc] at hr
            obtain rfl : bq = false := by rw [← hbq]; exact decide_eq_false hc
            subst hr
            clear hbq
            have EV := Lib.hid (show ErrIs (fun _ => False) w w7 R1.2 (.iface 122 (.pointer (some ⟨f', 0, none⟩))) from .inr ⟨hc, f', rfl, hf1, hf2, hf3, hf4⟩)
            clear hf1 hc
            go_wp2_with fail
            go_meet
            exact ⟨hle.out, EV.out, hbx'.out, hga.out⟩
        case rest =>
          obtain ⟨hle2, hev2, hbx2, hga2⟩ := hcut
          rename World => w8
          have HLE := Lib.hid hle2
          have HEV := Lib.hid hev2
          have HGA := Lib.hid hga2
          obtain ⟨P8, lw8, k8, r8⟩ := id hle2
          have h58 : w8.cell? ⟨l, 5, none⟩ = some (.int .i64 ((16 + pos : Nat) : Int)) := by
            have := lw8.log.cell 5
            rw [← HL2.out] at this
            exact this
          have H5 := Lib.hid h58
          have HB1 := Lib.hid hbx2.1
          have hglb2 : gl ≤ 5629499534213 := by have h1 := HGL.out; have h2 := HX.out.many; omega
          have hll8 := lw8.log.lt
          have hzz8 := hbx2.2.2
          clear hle2 hev2 hga2 lw8 k8 r8 h58 hbx hbx2 hb5
          go_wp2_with fail
          go_loopw [15, 138] (fun o i wr => ∃ (k : Nat) (yv : Value), k ≤ gl ∧ i = .int .i64 k ∧ yv = o ∧ Hid (wr.ownsRow w8.heap.size 9 1 yv k ((bs.map fun t => Value.string (str t)).take k)) ∧ Hid (Below w8.heap.size w8 wr)) (fun _ i _ => gl - (intOf i).toNat)
          case atStart => exact ⟨0, _, Nat.zero_le _, rfl, rfl, by show World.ownsRow _ _ _ _ _ _ _; rw [List.take_zero]; exact World.ownsRow_nil _ _ _ _, Below.refl _ _⟩
          case round =>
            obtain ⟨k, yv, hk, rfl, rfl, hr, hw⟩ := hrel
            obtain ⟨wk, hwk⟩ : ∃ wk, wk = wr := ⟨_, rfl⟩
            subst hwk
            have hsz := hw.out.size
            by_cases hlt : k < gl
            · have hkI : (k : Int) < (gl : Int) := by omega
              have hk0 : (0 : Int) ≤ (k : Int) := by omega
              obtain ⟨t, ht⟩ : ∃ t, bs[k]? = some t := ⟨_, List.getElem?_eq_getElem (by have := HGL.out; omega)⟩
              obtain ⟨-, hN, hbs | ⟨g, rfl, hg1, hg2, hcells⟩⟩ := HGA.out.below hw.out
              · rw [hbs] at ht; cases ht
              obtain ⟨gn, c0, c1⟩ := hcells k t ht
              have hT : Hid ((bs.map fun t => Value.string (str t)).take (k + 1) = (bs.map fun t => Value.string (str t)).take k ++ [Value.string (str t)]) := Lib.hid (by rw [List.take_add_one]; simp [ht])
              clear hcells ht
              go_wp2_with (at_builtin; refine wpList_append_text (wk.alloc (.cells #[.int .u64 gn, .string (str t)] 44)) rfl (.tmp 142) (.tmp 145) rfl w8.heap.size yv k ((bs.map fun t => Value.string (str t)).take k) rfl (hr.out.alloc _) (.string (str t)) rfl (by simp [Act.eval]) (by unfold maxLen; omega) (by omega) (by simp; omega) ?_)
              intro v2 w2 hown2 hB2
              have HO := Lib.hid hown2
              have HB := Lib.hid (hB2 w8 _ (hw.out.alloc hsz _) (Nat.le_refl _))
              clear hown2 hB2
              go_wp2
              go_roundw
              case rel => exact ⟨k + 1, _, by omega, by go_num, rfl, by show World.ownsRow _ _ _ _ _ _ _; rw [hT.out]; exact HO.out, HB.out⟩
              case measure => simp [intOf]; omega
            · obtain rfl : k = gl := by omega
              have hb1k : wk.cell? ⟨w.heap.size, 0, none⟩ = some (.pointer (some ⟨l, 0, none⟩)) := (World.cell?_of_block (hw.out.block w.heap.size (by omega))).trans HB1.out
              have h5k : wk.cell? ⟨l, 5, none⟩ = some (.int .i64 ((16 + pos : Nat) : Int)) := (World.cell?_of_block (hw.out.block l hll8)).trans H5.out
              have hwc : wrap64 (((str s).size : Int) - ((16 + pos : Nat) : Int)) = ct := by rw [str_size, hsl, ← HCT.out]; unfold wrap64; omega
              have hwc2 : IntKind.i64.wrap (((str s).size : Int) - ((16 + pos : Nat) : Int)) = ct := by rw [str_size, hsl, ← HCT.out]; unfold IntKind.wrap; simp [IntKind.signed, IntKind.bits]; omega
              generalize ((16 + pos : Nat) : Int) = sz at *
              go_wp2_with fail
              go_quiet (fail)
              rename_i nq
              go_wp2
              go_ret3
              have bq := below_drewN hw.out nq
              refine ⟨yv, u14, w8.heap.size, rfl, ?_, HEV.out.below bq, ?_, ?_⟩
              · obtain ⟨P8, lw8, k8, r8⟩ := HLE.out
                exact LgEnd.below ⟨P8, lw8, fun q hq => (k8 q hq).imp id (fun h => by have := BX5.out.2.2; omega), r8⟩ bq
              · have hh := hr.out
                have hgk := HGL.out
                rw [List.take_of_length_le (by simp; omega), hgk] at hh
                have bz := below_drewN (Below.refl wk.heap.size wk) nq
                exact World.ownsRow.kept (row := none) hh ⟨bz.os, bz.tape, bz.output, bz.size, fun q hq _ => bz.block q hq⟩ (by cases hv : yv.ownBlock <;> simp)
              · have := HGA.out.2.1; omega
end
end Go.Proofs.YtfbjmhipjfjaeaaGreatDoor
