/- The walk of AofTorn, where bodies are of bulk at most 1048576. -/
import Derived.Test.YtfbjmhipjfjaeaaGreatDoorM27
import Derived.Test.YtfbjmhipjfjaeaaGreatDoorM29
namespace Go.Proofs.YtfbjmhipjfjaeaaGreatDoor
open Go.ChangeShapes Go.WideShapes Go.ChangeAt Go.RowKit Go.Maps Pl
set_option linter.unusedVariables false
set_option linter.unusedSimpArgs false
theorem infoInt : (Tryz.prog.info? 3).map (fun i => (i.zero, i.size, i.bytes)) = some (some (.int .i64 0), 1, 8) := by kernel_rfl
theorem refEnc_good (n : Nat) (b : ByteArray) (hn0 : n ≠ 0) (hn : n ≤ 18446744073709551615) (hb : b.size ≤ 1048576) (w : World) :
    Calls Tryz.prog 19 #[.agg #[.int .u64 n, .string b]] w fun e w' => e = .returned (.tuple #[.string (str (encL n b.data.toList)), .int .i64 0]) ∧ Below w.heap.size w w' := by
  have h := refEnc_any n b w hn (by unfold maxLen; omega)
  unfold encS encE at h
  rw [if_neg (by omega), if_neg (by omega)] at h
  exact h
theorem bulk_logT {bs : List ByteArray} (hbs : bulkS bs ≤ 1048576) : (logT (bs.map fun b => b.data.toList)).length ≤ 26214416 := by
  rw [logT_length]
  have : ∀ l : List ByteArray, 25 * (l.map fun b => b.data.toList).length + ((l.map fun b => b.data.toList).map List.length).sum ≤ 25 * bulkS l := by
    intro l
    induction l with
    | nil => simp [bulkS]
    | cons b l ih =>
      have e := len_toList b
      simp only [bulkS, List.map_cons, List.sum_cons, List.length_cons] at ih ⊢
      omega
  have := this bs
  omega
/-- The places of a log's groups in a row. -/
def AtRow (W : World) (base : Nat) (v : Value) (ts : List Tx) (n : Nat) : Prop := W.ownsRow base 3 1 v (n + 1) ((List.range (n + 1)).map fun i => .int .i64 (at_ ts i))
theorem AtRow.cells {W : World} {base n : Nat} {v : Value} {ts : List Tx} (h : AtRow W base v ts n) : ∃ g cp, v = .slice (some ⟨g, 0, none⟩) (n + 1) cp ∧ base ≤ g ∧ g < W.heap.size ∧ ∀ i, i ≤ n → W.cell? ⟨g, i, none⟩ = some (.int .i64 (at_ ts i)) := by
  have h0 := h
  rcases h.2 with ⟨-, h2⟩ | ⟨g, cap, cur, rfl, h2, h3, h4, _⟩
  · omega
  · refine ⟨g, cap, rfl, h2, (Array.getElem?_eq_some_iff.1 h3).1, fun i hi => ?_⟩
    rw [World.ownsRow.cellAt h0 i (by omega)]
    rw [List.getElem?_map, List.getElem?_range (by omega)]
    rfl
theorem DW.from {P : Nat → Prop} {w : World} {b : Nat} {a : Addr} {S : Dk} {B : Nat} (h : DW P w b a S) (hP : ∀ k, P k → B ≤ k) (hB : 3 ≤ B) : DW (fun k => B ≤ k) w b a S :=
  ⟨h.one.mono hP, h.sent, fun k hk => Nat.le_trans hB hk, h.three⟩
/-- An argument's slice of texts has room for what it holds. -/
theorem srow_cap {H : Type} {enc : TypeId × Value → H} {P : Program} {W : World} {r : Reach} {b0 : Nat} {t e : TypeId} {v : Value} {d : DataW H} {ps : List MemPlace} {sp : Nat → Bool} (ht : P.underlying t = some (.slice e)) (he : P.underlying e = some .string) (hc : P.cellsOf e = 1)
    (hval : Value.okWide P W r b0 t v) (h : DataW.Trod enc P W 0 sp true t v d ps) : ∀ ao n cp, v = .slice ao n cp → n ≤ cp := by
  rintro ao n cp rfl
  obtain ⟨fuel, hf⟩ := h
  rcases Deep.open_strs ht he hc hf with ⟨hcs, hx⟩ | ⟨a, len', cap', m, Sx, hcs, _, hl, hm, hmm, hx, hcell⟩
  · simp [Value.cells] at hcs
    obtain ⟨rfl, rfl, rfl⟩ := hcs
    exact Nat.le_refl _
  · simp [Value.cells] at hcs
    obtain ⟨rfl, rfl, rfl⟩ := hcs
    exact hl
section
variable {a : Addr}
set_option maxRecDepth 100000 in
set_option maxHeartbeats 16000000 in
theorem aofTorn_walk (v : Value) (bs : List ByteArray) (hbs : bulkS bs ≤ 1048576) (hcap : ∀ ao n cp, v = .slice ao n cp → n ≤ cp) (k0 : Int) (wk0 : (Lit.int .i64 k0).wf = true) (w : World) (hrow : SRow w v bs) (hs : Sent w a) (h3 : 3 ≤ w.heap.size) :
    Calls Tryz.prog 4 #[v, .int .i64 k0] w fun e w' => e = .returned (.bool true) ∧ Below w.heap.size w w' := by
  have HLong := Lib.hid (long_any v bs hbs w hrow)
  have HSure := Lib.hid (fun W (hb : Below w.heap.size w W) => sure_any (hs.kept (K := fun _ => False) (Wr.of_below hb) (by omega) (fun _ _ h => h)) (Nat.le_trans h3 hb.size))
  have HSent := Lib.hid (fun W (hb : Below w.heap.size w W) => And.intro (hs.kept (K := fun _ => False) (Wr.of_below hb) (by omega) (fun _ _ h => h)) (Nat.le_trans h3 hb.size))
  have HRow := Lib.hid hrow
  have hlen := bulkS_length bs
  have hkb := bounds_i64 wk0
  obtain ⟨ts, hts⟩ : ∃ ts, (bs.map fun b => b.data.toList) = ts := ⟨_, rfl⟩
  have HTS := Lib.hid hts
  have htl : ts.length = bs.length := by rw [← hts]; simp
  have hTl := bulk_logT hbs
  rw [hts] at hTl
  have hbm : ∀ t ∈ ts, t.length ≤ 1048576 := fun t ht => by
    rw [← hts] at ht
    obtain ⟨b, hb, rfl⟩ := List.mem_map.1 ht
    have := bulkS_mem hb
    rw [len_toList]; omega
  have HBM := Lib.hid hbm
  obtain ⟨va, vc, rfl, hr⟩ := id hrow
  have hcp : bs.length ≤ vc := hcap _ _ _ rfl
  have HR := Lib.hid hr
  have HH := Lib.hid (fun W => refHead_any 1 W (by omega))
  have hh1 : headS 1 = str (logT (ts.take 0)) := by
    rw [headS_is, List.take_zero]; unfold logT; simp [grps, encAll]
  rw [hh1] at HH
  clear hrow hs hr hts hbm hcap hh1 wk0
  go_enter Tryz.func4, Tryz.ntmps4
  go_wp2_with fail
  refine HLong.out.mono ?_
  rintro e w1 ⟨rfl, rfl⟩
  go_wp2_with fail
  refine (HH.out _).mono ?_
  rintro e w2 ⟨rfl, b2⟩
  have B2 := Lib.hid b2
  clear b2
  have hat0 : ((str (logT (ts.take 0))).size : Int) = (at_ ts 0 : Int) := by rw [str_size]; rfl
  go_wp2_with fail
  go_loopw [5, 6, 7] (fun s y i wr => ∃ (k : Nat) (yv : Value), k ≤ bs.length ∧ i = .int .i64 k ∧ s = .string (str (logT (ts.take k))) ∧ yv = y ∧ Hid (AtRow wr w2.heap.size yv ts k) ∧ Hid (Below w1.heap.size w1 wr)) (fun _ _ i _ => bs.length - (intOf i).toNat)
  case atStart =>
    refine ⟨0, _, Nat.zero_le _, rfl, rfl, rfl, Lib.hid ⟨rfl, .inr ⟨w2.heap.size, 1, #[.int .i64 (at_ ts 0)], rfl, Nat.le_refl _, ?_, Nat.le_refl _, by decide, rfl, rfl⟩⟩, Lib.hid (B2.out.alloc B2.out.size _)⟩
    rw [← hat0]
    exact alloc_here _ _
  case round =>
    obtain ⟨k, yv, hk, rfl, rfl, rfl, hr, hw⟩ := hrel
    obtain ⟨wk, hwk⟩ : ∃ wk, wk = wr := ⟨_, rfl⟩
    subst hwk
    by_cases hlt : k < bs.length
    · obtain ⟨x, hx⟩ : ∃ x, bs[k]? = some x := ⟨bs[k], List.getElem?_eq_getElem hlt⟩
      have htx : ts[k]? = some x.data.toList := by rw [← HTS.out, List.getElem?_map, hx]; rfl
      obtain ⟨e1, e2⟩ := at_succ htx
      have hxm := bulkS_mem (List.mem_of_getElem? hx)
      rcases HR.out with rfl | ⟨g, o, rfl, hg, hc⟩
      · simp at hlt
      have p1 : wk.cell? ⟨g, o + k, none⟩ = some (.string x) := (World.cell?_of_block (hw.out.block g hg)).trans (hc k x hx)
      have HE := Lib.hid (fun W => refEnc_good (k + 1) x (by omega) (by omega) (by omega) W)
      have hle := at_le ts (i := k) (by omega)
      have hszk : (str (logT (ts.take k))).size = at_ ts k := by rw [str_size]; rfl
      have hsze : (str (encL (k + 1) x.data.toList)).size = 25 + x.size := by rw [str_size, encL_length, len_toList]
      have hcat : ¬ IntKind.i64.max < (((str (logT (ts.take k))).size : Int) + ((str (encL (k + 1) x.data.toList)).size : Int)) := by
        have h2 : IntKind.i64.max = 9223372036854775807 := rfl
        omega
      have hcat2 : ¬ (9223372036854775807 : Int) < (((str (logT (ts.take k))).size : Int) + ((str (encL (k + 1) x.data.toList)).size : Int)) := hcat
      have hsum : str (logT (ts.take k)) ++ str (encL (k + 1) x.data.toList) = str (logT (ts.take (k + 1))) := by rw [e1]; exact str_append _ _
      have hsz1 : ((str (logT (ts.take (k + 1)))).size : Int) = (at_ ts (k + 1) : Int) := by rw [str_size]; rfl
      have hwr : IntKind.u64.wrap ((k : Int) + 1) = ((k + 1 : Nat) : Int) := by unfold IntKind.wrap; simp [IntKind.signed, IntKind.bits]; omega
      have hkI : (k : Int) < (bs.length : Int) := by omega
      have hw1 := hw.out.size
      have hbase : w2.heap.size ≤ wk.heap.size := by
        obtain ⟨g2, cp2, -, h5, h6, -⟩ := hr.out.cells
        omega
      clear hc hx htx e1 e2 hszk hsze hle
      go_wp2_with fail
      refine (HE.out _).mono ?_
      rintro e w3 ⟨rfl, b3⟩
      have hr3 : World.ownsRow w3 w2.heap.size 3 1 yv (k + 1) ((List.range (k + 1)).map fun i => .int .i64 (at_ ts i)) := World.ownsRow.kept (row := none) hr.out ⟨b3.os, b3.tape, b3.output, b3.size, fun q hq _ => b3.block q hq⟩ (by cases hv : yv.ownBlock <;> simp)
      have HR3 := Lib.hid hr3
      have BB3 := Lib.hid (hw.out.trans (b3.mono hw1))
      have hb3 := b3.size
      clear hr3 b3
      go_wp2_with (at_builtin; refine wpList_append_one w3 rfl (.tmp 55) (.tmp 58) 40 rfl w2.heap.size 3 (.int .i64 0) 8 Tryz.underlying40 infoInt rfl yv (k + 1) ((List.range (k + 1)).map fun i => .int .i64 (at_ ts i)) rfl HR3.out (.int .i64 (at_ ts (k + 1))) rfl (by simp [Act.eval]) (by unfold maxLen; omega) (by omega) (by omega) ?_)
      intro v2 w4 hown2 hgr hB2
      have HO := Lib.hid (show AtRow w4 w2.heap.size v2 ts (k + 1) by
        unfold AtRow
        rw [List.range_succ, List.map_append, List.range_succ, List.map_append, List.append_assoc]
        exact hown2)
      have HB := Lib.hid (hB2 w1 w1.heap.size BB3.out B2.out.size)
      clear hown2 hgr hB2
      go_wp2
      go_roundw
      case rel => exact ⟨k + 1, _, by omega, by go_num, rfl, rfl, HO, HB⟩
      case measure => simp [intOf]; omega
    · obtain rfl : k = bs.length := by omega
      rw [List.take_of_length_le (by omega)]
      obtain ⟨ga, ca, rfl, hga1, hga2, hcells⟩ := hr.out.cells
      have CELLS := Lib.hid hcells
      have HW := Lib.hid hw.out
      have hwsz := hw.out.size
      clear hcells hr hw
      obtain ⟨k, hk1, hk2⟩ : ∃ k : Nat, k ≤ (logT ts).length ∧ ((k0 ≤ 0 ∧ k = 0) ∨ ((((logT ts).length : Nat) : Int) < k0 ∧ k = (logT ts).length) ∨ (0 < k0 ∧ k0 ≤ (((logT ts).length : Nat) : Int) ∧ k0 = (k : Int))) := by
        by_cases h1 : k0 ≤ 0
        · exact ⟨0, Nat.zero_le _, .inl ⟨h1, rfl⟩⟩
        · by_cases h2 : (((logT ts).length : Nat) : Int) < k0
          · exact ⟨_, Nat.le_refl _, .inr (.inl ⟨h2, rfl⟩)⟩
          · exact ⟨k0.toNat, by omega, .inr (.inr ⟨by omega, by omega, by omega⟩)⟩
      obtain ⟨T, hT⟩ : ∃ T, logT ts = T := ⟨_, rfl⟩
      rw [hT] at hTl hk1 hk2
      rw [hT]
      have HT := Lib.hid hT
      have hTs : ((str T).size : Int) = (T.length : Int) := by rw [str_size]
      clear hT
      go_upto_region 11 with fail
      go_cut [1] from 60 to 64 (fun v wx => v = .int .i64 (k : Int) ∧ wx = wk)
      case first =>
        have hmm : max 0 (min k0 (T.length : Int)) = (k : Int) := by
          rcases hk2 with ⟨h, rfl⟩ | ⟨h, rfl⟩ | ⟨h, h', rfl⟩ <;> omega
        go_wp2_with fail
        go_meet
        exact ⟨rfl, rfl⟩
      case rest =>
        obtain ⟨rfl, rfl⟩ := hcut
        rename World => wk
        obtain ⟨se1, se2⟩ := HSent.out wk HW.out
        have HNew := Lib.hid (new_dw se1 se2)
        clear hk2 se1
        go_wp2_with fail
        refine HNew.out.mono ?_
        rintro e w5 ⟨b, rfl, dw5, b5⟩
        have DW5 := Lib.hid dw5
        have B5 := Lib.hid b5
        clear dw5 b5
        go_wp2_with fail
        refine (DW5.out.create Dk.Inv.new Dk.Small.new (by decide) logN logN_len).mono ?_
        rintro e w6 ⟨rfl, dw6, r6⟩
        have DW6 : Hid (DW (fun k => wk.heap.size ≤ k) w6 b a (oneF [] 0 [] openF 1)) := Lib.hid (DW.from dw6 (fun k hk => hk.elim id (fun h => Nat.le_trans B5.out.size h)) se2)
        have B6 := Lib.hid (B5.out.trans (r6.below (fun k hk => hk) B5.out.size))
        have hex : (str T).extract 0 k = str (T.take k) := by
          apply ba_ext
          rw [Lib.extract_data, str_toList, str_toList, List.drop_zero, Nat.sub_zero]
        have i6 : (oneF [] 0 [] openF 1).Inv := Dk.Inv.new.create logN
        have s6 : (oneF [] 0 [] openF 1).Small 1 := Dk.Small.new.create logN_len
        have hkz : (0 : Int) ≤ (k : Int) := by omega
        have hkl : (k : Int) ≤ ((str T).size : Int) := by omega
        have hkl2 : k ≤ (str T).size := by rw [str_size]; exact hk1
        clear dw6 r6
        go_wp2_with fail
        refine (DW6.out.append i6 s6 (by decide) logN (T.take k) logN_len (by rw [List.length_take]; omega)).mono ?_
        rintro e w7 ⟨rfl, dw7, r7⟩
        rw [of_append, List.nil_append] at dw7
        have i7 : (oneF (T.take k) 0 [] openF 2).Inv := by have := i6.append logN (T.take k); rw [of_append, List.nil_append] at this; exact this
        have s7 : (oneF (T.take k) 0 [] openF 2).Small 2 := by have := s6.append logN (s := T.take k) (by rw [List.length_take]; omega); rw [of_append, List.nil_append] at this; exact this
        have DW7 := Lib.hid (DW.from dw7 (fun k hk => hk.elim id (fun h => Nat.le_trans B6.out.size h)) se2)
        have B7 := Lib.hid (B6.out.trans (r7.below (fun k hk => hk) B6.out.size))
        obtain ⟨n, hst⟩ := stands_ex ts k
        have hmax : ∀ t ∈ ts, t.length ≤ maxG := fun t ht => by have := HBM.out t ht; unfold maxG; omega
        obtain ⟨m, st, ho⟩ := torn_open hst (by rw [HT.out]; exact hk1) hmax (by omega) (by rw [HT.out]; omega) [] openF 2
        rw [HT.out] at ho
        have HST := Lib.hid hst
        have hnl := hst.le
        have i8 := ho.inv (by rw [of_clean]; exact i7)
        have s8 := ho.small (j := 2) (by rw [of_clean]; exact s7)
        have HIS := Lib.hid (And.intro i8 s8)
        have hn2 : (ts.take n).length = n := by rw [List.length_take, Nat.min_eq_left hnl]
        clear dw7 r7 i8 s8 hst i6 s6
        go_wp2_with fail
        refine (open_any DW7.out i7 s7 (by decide) (by decide) (by rw [of_clean]) ho rfl).mono ?_
        rintro e w8 he
        obtain ⟨l, bv, base, P8, rfl, lw8, k8, b8, tx8, hb8, hl8⟩ := he.belowOf (B := wk.heap.size) (fun k hk => hk) B7.out.size
        rw [hn2]
        obtain ⟨fa, fc, rfl⟩ : ∃ ao cp, bv = .slice ao n cp := by
          obtain ⟨ao, cp, e, -⟩ := tx8.tat
          rw [hn2] at e
          exact ⟨ao, cp, e⟩
        have B8 := Lib.hid (B7.out.trans b8)
        have LW8 := Lib.hid lw8
        have TX8 := Lib.hid tx8
        clear he b8 lw8 tx8 ho i7 s7 hex hkz hkl hkl2
        go_wp2_with fail
        have hfb := alloc_here w8 (.cells #[.int .i64 n, .int .i64 (at_ ts n), .int .i64 (cutN ts k n), .int .u64 n] 26)
        have B9 := Lib.hid (B8.out.alloc B8.out.size (.cells #[.int .i64 n, .int .i64 (at_ ts n), .int .i64 (cutN ts k n), .int .u64 n] 26))
        have LW9 := Lib.hid (LW8.out.below ((Below.refl _ _).alloc (Nat.le_refl _) (.cells #[.int .i64 n, .int .i64 (at_ ts n), .int .i64 (cutN ts k n), .int .u64 n] 26)))
        have TX9 := Lib.hid (TX8.out.below ((Below.refl _ _).alloc (Nat.le_refl _) (.cells #[.int .i64 n, .int .i64 (at_ ts n), .int .i64 (cutN ts k n), .int .u64 n] 26)))
        generalize (w8.alloc (.cells #[.int .i64 n, .int .i64 (at_ ts n), .int .i64 (cutN ts k n), .int .u64 n] 26)) = w9 at *
        have HFB := Lib.hid hfb
        have hfl : w8.heap.size < w9.heap.size := (Array.getElem?_eq_some_iff.1 hfb).1
        have hlgc : ∀ i, i ≤ bs.length → w9.cell? ⟨ga, i, none⟩ = some (.int .i64 (at_ ts i)) := fun i hi => (World.cell?_of_block (B9.out.block ga hga2)).trans (CELLS.out i hi)
        have HLG := Lib.hid hlgc
        have hgl9 : ga < w9.heap.size := Nat.lt_of_lt_of_le hga2 B9.out.size
        have hatb : ∀ i, i ≤ bs.length → at_ ts i ≤ 26214416 := fun i hi => by have := at_le ts (i := i) (by omega); rw [HT.out] at this; omega
        clear hfb hlgc
        go_loopw [15, 16, 17] (fun nn gd i wr => ∃ q : Nat, q ≤ bs.length + 1 ∧ i = .int .i64 q ∧ nn = .int .i64 ((min (q - 1) n : Nat) : Int) ∧ gd = .int .i64 ((at_ ts (min (q - 1) n) : Nat) : Int) ∧ Hid (Below w9.heap.size w9 wr)) (fun _ _ i _ => bs.length + 1 - (intOf i).toNat)
        case atStart => exact ⟨0, Nat.zero_le _, rfl, by simp, by rw [show min (0 - 1) n = 0 by omega, at_zero]; rfl, Lib.hid (Below.refl _ _)⟩
        case round =>
          obtain ⟨q, hq, rfl, rfl, rfl, hw⟩ := hrel
          obtain ⟨wq, hwq⟩ : ∃ wq, wq = wr := ⟨_, rfl⟩
          subst hwq
          by_cases hlt : q < bs.length + 1
          · have c0 : wq.cell? ⟨ga, q, none⟩ = some (.int .i64 (at_ ts q)) := (World.cell?_of_block (hw.out.block ga hgl9)).trans (HLG.out q (by omega))
            have hqI : (q : Int) < ((bs.length + 1 : Nat) : Int) := by omega
            have hqI2 : (q : Int) < (bs.length : Int) + 1 := by omega
            have hq0 : (0 : Int) ≤ (q : Int) := by omega
            have hiff := HST.out.iff q (by omega)
            have hlow := HST.out.low
            by_cases hc : at_ ts q ≤ k
            · have hcI : (at_ ts q : Int) ≤ (k : Int) := by omega
              have hqn := (hiff.1 hc).2
              have hm1 : min (q + 1 - 1) n = q := by omega
              generalize min (q - 1) n = mq at *
              clear hiff hlow
              go_wp2_with fail
              go_quiet (fail)
              rename_i nq
              have BQ := Lib.hid (below_drewN hw.out nq)
              go_wp2
              go_roundw
              case rel => exact ⟨q + 1, by omega, by go_num, by rw [hm1], by rw [hm1], BQ⟩
              case measure => simp [intOf]; omega
            · have hcI : ¬ (at_ ts q : Int) ≤ (k : Int) := by omega
              have hm1 : min (q + 1 - 1) n = min (q - 1) n := by
                rcases Nat.lt_or_ge k 16 with h16 | h16
                · have := hlow h16; omega
                · have : ¬ q ≤ n := fun h => hc (hiff.2 ⟨h16, h⟩)
                  omega
              have HM := Lib.hid hm1
              clear hiff hlow hm1
              generalize hmq : min (q - 1) n = mq at *
              go_wp2
              go_roundw
              case rel => exact ⟨q + 1, by omega, by go_num, by rw [HM.out], by rw [HM.out], hw⟩
              case measure => simp [intOf]; omega
          · obtain rfl : q = bs.length + 1 := by omega
            rw [show min (bs.length + 1 - 1) n = n by omega]
            have B10 := Lib.hid (B9.out.trans (hw.out.mono B9.out.size))
            have LW10 := Lib.hid (LW9.out.below hw.out)
            have TX10 := Lib.hid (TX9.out.below hw.out)
            have HF10 : Hid (wq.heap[w8.heap.size]? = _) := Lib.hid ((hw.out.block _ hfl).trans HFB.out)
            have hatn := hatb n (by omega)
            have hkT : k ≤ 26214416 := by omega
            have hcw : wrap64 ((k : Int) - (at_ ts n : Int)) = (k : Int) - (at_ ts n : Int) := by unfold wrap64; omega
            rw [show ((bs.length + 1 : Nat) : Int) = (bs.length : Int) + 1 from rfl]
            go_upto_if 107 with fail
            go_cut [18] from 34 to 108 (fun v wx => v = .int .i64 (cutN ts k n) ∧ wx = wq)
            case first =>
              by_cases h16 : k < 16
              · have hI : (k : Int) < 16 := by omega
                have hcu : cutN ts k n = (k : Int) := by unfold cutN; rw [if_pos h16]
                have HCU := Lib.hid hcu
                clear hcu h16
                go_wp2_with fail
                go_meet
                exact ⟨by rw [HCU.out], rfl⟩
              · have hI : ¬ (k : Int) < 16 := by omega
                have hcu : cutN ts k n = (k : Int) - (at_ ts n : Int) := by unfold cutN; rw [if_neg h16]
                have HCU := Lib.hid hcu
                clear hcu h16
                go_wp2_with fail
                go_meet
                exact ⟨by rw [HCU.out], rfl⟩
            case rest =>
              obtain ⟨rfl, rfl⟩ := hcut
              rename World => w10
              have h1 : (0 : Int) ≤ (n : Int) := by omega
              have h2 : (n : Int) ≤ (vc : Int) := by omega
              have h2' : n ≤ vc := by omega
              have htk : TAt w10 (.slice va n vc) (ts.take n) := by
                have h0 := HRow.out.tat
                rw [HTS.out] at h0
                have h0 : TAt w1 (.slice va ts.length vc) ts := by rw [htl]; exact h0
                exact (h0.take (by omega)).below (HW.out.trans (B10.out.mono HW.out.size))
              have htf : TAt w10 (.slice fa n fc) (ts.take n) := TX10.out.tat
              have HSame := Lib.hid (same_texts _ _ (ts.take n) (by omega) w10 htf htk)
              have hwn : IntKind.u64.wrap (n : Int) = (n : Int) := by unfold IntKind.wrap; simp [IntKind.signed, IntKind.bits]; omega
              have hwn1 : IntKind.u64.wrap ((n : Int) + 1) = (n : Int) + 1 := by unfold IntKind.wrap; simp [IntKind.signed, IntKind.bits]; omega
              clear htk htf
              go_wp2_with fail
              refine HSame.out.mono ?_
              rintro e w11 ⟨rfl, b11⟩
              have B11 := Lib.hid (B10.out.trans (b11.mono B10.out.size))
              have LW11 := Lib.hid (LW10.out.below b11)
              have hfb11 : w11.heap[w8.heap.size]? = some (.cells #[.int .i64 n, .int .i64 (at_ ts n), .int .i64 (cutN ts k n), .int .u64 n] 26 (0, 0)) := (b11.block _ (Array.getElem?_eq_some_iff.1 HF10.out).1).trans HF10.out
              have f0 : w11.cell? ⟨w8.heap.size, 0, none⟩ = some (.int .i64 n) := by simp [World.cell?, hfb11]
              have f1 : w11.cell? ⟨w8.heap.size, 1, none⟩ = some (.int .i64 (at_ ts n)) := by simp [World.cell?, hfb11]
              have f2 : w11.cell? ⟨w8.heap.size, 2, none⟩ = some (.int .i64 (cutN ts k n)) := by simp [World.cell?, hfb11]
              have f3 : w11.cell? ⟨w8.heap.size, 3, none⟩ = some (.int .u64 n) := by simp [World.cell?, hfb11]
              have HRd := Lib.hid (show Calls Tryz.prog 24 #[.pointer (some ⟨b, 0, none⟩), .string (str logN)] w11 (fun e w' => e = .returned (.tuple #[.string (str (logT (ts.take n))), .int .i64 0]) ∧ w11 = w') from LW11.out.readC HIS.out.1)
              have HAp := Lib.hid (show Calls Tryz.prog 8 #[.pointer (some ⟨l, 0, none⟩), .string (str [109, 111, 114, 101])] w11 (fun e w' => e = .returned (.tuple #[.int .u64 ((n + 1 : Nat) : Int), .int .i64 0]) ∧ LgEnd P8 w11 l b a (oneF (logT (ts.take n) ++ encL (n + 1) [109, 111, 114, 101]) (logT (ts.take n) ++ encL (n + 1) [109, 111, 114, 101]).length [(logN, 0)] [] (st + 2)) ⟨1, 0, n + 1, n + 1, (at_ ts n : Int) + (encL (n + 1) [109, 111, 114, 101]).length, false, false⟩ w') from by
                have := logAppend_any LW11.out HIS.out.1 HIS.out.2 (by decide) ⟨by show n ≤ _; omega, Nat.le_refl _, by show (0 : Int) ≤ (at_ ts n : Int); omega, by show (at_ ts n : Int) ≤ _; omega, by show (0 : Int) ≤ 0; decide, by show (0 : Int) ≤ _; decide⟩ [109, 111, 114, 101] (by decide) (.inr (of_calm _ _ _ _ _))
                rw [of_logAppend] at this
                exact this)
              have i12 := Lg.append_inv (L := ⟨1, 0, n, n, at_ ts n, false, false⟩) HIS.out.1 [109, 111, 114, 101]
              have s12 := Lg.append_small (L := ⟨1, 0, n, n, at_ ts n, false, false⟩) HIS.out.2 (body := [109, 111, 114, 101]) (by decide)
              rw [of_logAppend] at i12 s12
              have elog : logT (ts.take n) ++ encL (n + 1) [109, 111, 114, 101] = logT (ts.take n ++ [[109, 111, 114, 101]]) := by rw [logT_snoc, hn2, Nat.add_comm 1 n]
              rw [elog] at i12 s12 HAp
              have HIS12 := Lib.hid (And.intro i12 s12)
              clear hfb11 b11 i12 s12 elog
              go_wp2_with fail
              refine HRd.out.mono ?_
              rintro e w12 ⟨rfl, rfl⟩
              clear f0 f1 f2 f3
              go_wp2_with fail
              refine HAp.out.mono ?_
              rintro e w12 ⟨rfl, le12⟩
              obtain ⟨P12, lw12, k12, b12⟩ := le12.belowOf (B := wk.heap.size) k8 hl8 B11.out.size
              have B12 := Lib.hid (B11.out.trans b12)
              have LW12 := Lib.hid lw12
              clear le12 lw12 b12
              have hmax : ∀ t ∈ ts.take n ++ [[109, 111, 114, 101]], t.length ≤ maxG := fun t ht => by
                rcases List.mem_append.1 ht with ht | ht
                · have := HBM.out t (List.mem_of_mem_take ht); unfold maxG; omega
                · rw [List.mem_singleton.1 ht]; decide
              have hll : (ts.take n ++ [[109, 111, 114, 101]]).length = n + 1 := by rw [List.length_append, hn2]; rfl
              have hLz : (logT (ts.take n ++ [[109, 111, 114, 101]])).length ≤ 140737488351232 := by
                rw [logT_snoc, List.length_append, encL_length]
                have : (logT (ts.take n)).length = at_ ts n := rfl
                simp only [List.length_cons, List.length_nil]
                omega
              obtain ⟨m13, st13, ho13⟩ := whole_open (ts.take n ++ [[109, 111, 114, 101]]) hmax (by omega) hLz (logT (ts.take n ++ [[109, 111, 114, 101]])).length [(logN, 0)] [] (st + 2)
              rw [hll] at ho13
              have HO13 := Lib.hid ho13
              clear ho13 hmax hLz
              go_wp2_with fail
              refine (open_any LW12.out.dw HIS12.out.1 HIS12.out.2 (by decide) (by decide) (by rw [of_clean]) HO13.out rfl).mono ?_
              rintro e w13 he
              obtain ⟨l13, bv13, base13, P13, rfl, lw13, k13, b13, tx13, -, -⟩ := he.belowOf (B := wk.heap.size) k12 B12.out.size
              obtain ⟨ha13, hc13, e13, hx13⟩ := tx13.tat
              rw [hll] at e13
              subst e13
              rcases hx13 with hx13 | ⟨g13, o13, rfl, hg13, hc13'⟩
              · have := congrArg List.length hx13; rw [hll] at this; simp at this
              have more13 : w13.cell? ⟨g13, o13 + n, none⟩ = some (.string ⟨#[109, 111, 114, 101]⟩) := hc13' n [109, 111, 114, 101] (by rw [List.getElem?_append_right (by omega), hn2, Nat.sub_self]; rfl)
              have B13 := Lib.hid (B12.out.trans b13)
              have BW := Lib.hid (HW.out.trans ((B13.out.alloc B13.out.size (.cells #[.int .i64 ((n : Int) + 1), .int .i64 ((logT (ts.take n ++ [[109, 111, 114, 101]])).length : Nat), .int .i64 0, .int .u64 ((n : Int) + 1)] 26)).mono HW.out.size))
              have hmx : max (at_ ts n : Int) 0 = (at_ ts n : Int) := by omega
              have hext : (str T).extract 0 (at_ ts n) = str (logT (ts.take n)) := by
                apply ba_ext
                rw [Lib.extract_data, str_toList, str_toList, List.drop_zero, Nat.sub_zero, ← HT.out]
                exact logT_take ts (by omega)
              have hb1 : (0 : Int) ≤ (at_ ts n : Int) := by omega
              have hb2 : (at_ ts n : Int) ≤ ((str T).size : Int) := by
                have := at_le ts (i := n) (by omega)
                rw [HT.out] at this
                rw [str_size]; omega
              have hb3 : at_ ts n ≤ (str T).size := by omega
              have hnI : (n : Int) < ((n + 1 : Nat) : Int) := by omega
              have more13' : (w13.alloc (.cells #[.int .i64 ((n : Int) + 1), .int .i64 ((logT (ts.take n ++ [[109, 111, 114, 101]])).length : Nat), .int .i64 0, .int .u64 ((n : Int) + 1)] 26)).cell? ⟨g13, o13 + n, none⟩ = some (.string ⟨#[109, 111, 114, 101]⟩) := (World.cell?_alloc_past _ _ _ hg13).trans more13
              clear he lw13 b13 tx13 hc13' more13
              rw [hll]
              go_wp2_with fail
              refine (HSure.out _ BW.out).mono ?_
              rintro e w14 ⟨rfl, b14⟩
              go_wp2
              go_ret
              exact ⟨rfl, BW.out.trans (b14.mono BW.out.size)⟩
end
end Go.Proofs.YtfbjmhipjfjaeaaGreatDoor
