/- covenantlaw26: a life. -/
import Derived.Test.YtfbjmhipjfjaeaaGreatDoorM33
namespace Go.Proofs.YtfbjmhipjfjaeaaGreatDoor
open Go.ChangeShapes Go.WideShapes Go.ChangeAt Go.RowKit Go.Maps Pl
set_option linter.unusedVariables false
set_option linter.unusedSimpArgs false
def LifeBd (S : Dk) (j : Nat) (all all' : List Tx) (n s : Nat) : Prop := S.Small j ∧ all'.length ≤ all.length + n ∧ (all'.map List.length).sum ≤ (all.map List.length).sum + s
def LifeEnd (B : Nat) (P : Nat → Prop) (w : World) (l b : Nat) (a : Addr) (v : Value) (L0 : Lg) (M : Int) (j : Nat) (all : List Tx) (os : List Oq) (e : Ending) (w' : World) : Prop :=
  ∃ S' L' all' v', e = .returned (.tuple #[v', .bool true]) ∧ LifeSt (fun _ => False) B P w l b a v w' S' L' all' v' ∧ InL L0 S' L' all' (M + 33554432 * os.length) ∧ LifeBd S' (j + 6 * os.length) all all' os.length (wtO os)
theorem LifeSt.reach {X : Nat → Prop} {B : Nat} {P : Nat → Prop} {w0 w wr : World} {l b : Nat} {a : Addr} {v v' : Value} {S : Dk} {L : Lg} {all : List Tx} (h : LifeSt X B P w l b a v wr S L all v') (hw : Below B w0 w) (hP : ∀ k, P k → B ≤ k) (hl : B ≤ l) (hv : ∀ k, v.ownBlock = some k → B ≤ k) : Below B w0 wr := by
  obtain ⟨P', h⟩ := h
  exact hw.trans (h.far.below (fun k hk => hk.elim (hP k) fun hk => hk.elim (fun e => e ▸ hl) (hv k)) h.hB)
section
variable {P : Nat → Prop} {w0 w : World} {l b j : Nat} {a : Addr} {S : Dk} {L L0 : Lg} {all : List Tx} {M : Int}
set_option maxRecDepth 100000 in
set_option maxHeartbeats 16000000 in
theorem life_any (v sv : Value) (os : List Oq) (hw : Below w0.heap.size w0 w) (hst : LifeSt (fun _ => False) w0.heap.size P w l b a v w S L all v) (hP : ∀ k, P k → w0.heap.size ≤ k) (hl : w0.heap.size ≤ l)
    (hr : OpRow w0 sv os) (hin : InL L0 S L all M) (hS : S.Small j) (hj : j + 6 * os.length ≤ 4190000) (hos : all.length + os.length ≤ 2097152) (hsum : (all.map List.length).sum + wtO os ≤ 33554299) (hM0 : 33554432 ≤ M) (hM : M + 33554432 * os.length ≤ 4611686018427387904) (hev : 0 ≤ L0.every ∧ L0.every ≤ 9223372036854775807) :
    Calls Tryz.prog 30 #[.pointer (some ⟨l, 0, none⟩), v, sv] w (LifeEnd w0.heap.size P w l b a v L0 M j all os) := by
  obtain ⟨sa, sc, rfl, hrr⟩ := hr
  have HR := Lib.hid hrr
  have hv0 : ∀ k, v.ownBlock = some k → w0.heap.size ≤ k := by obtain ⟨P', h⟩ := hst; exact fun k hk => (h.lt k hk).1
  have HRe := Lib.hid (fun X wr v' S L all (h : LifeSt X w0.heap.size P w l b a v wr S L all v') => h.reach hw hP hl hv0)
  have HST := Lib.hid hst
  have HIN := Lib.hid hin
  have HS := Lib.hid hS
  obtain ⟨ta, tc, rfl⟩ : ∃ ao cp, v = .slice ao all.length cp := by obtain ⟨ao, cp, e, -⟩ := hst.tat; exact ⟨ao, cp, e⟩
  clear hst hin hS hrr hw hP hv0
  go_enter Tryz.func30, Tryz.ntmps30
  go_wp2_with fail
  go_loopw [1, 8] (fun y i wr => ∃ (k : Nat) (S' : Dk) (L' : Lg) (all' : List Tx) (v' : Value), k ≤ os.length ∧ i = .int .i64 k ∧ v' = y ∧ Hid (LifeSt (fun _ => False) w0.heap.size P w l b a (.slice ta all.length tc) wr S' L' all' v') ∧ Hid (InL L0 S' L' all' (M + 33554432 * k)) ∧ Hid (LifeBd S' (j + 6 * k) all all' k (wtO (os.take k)))) (fun _ i _ => os.length - (intOf i).toNat)
  case atStart => exact ⟨0, S, L, all, _, Nat.zero_le _, rfl, rfl, HST.out, HIN.out.mono (by simp), HS.out, Nat.le_refl _, by simp [wtO]⟩
  case round =>
    obtain ⟨k, S1, L1, all1, v1, hk, rfl, rfl, hst, hin, hbd⟩ := hrel
    obtain ⟨wk, hwk⟩ : ∃ wk, wk = wr := ⟨_, rfl⟩
    subst hwk
    obtain ⟨ua, uc, rfl⟩ : ∃ ao cp, v1 = .slice ao all1.length cp := by obtain ⟨ao, cp, e, -⟩ := hst.out.tat; exact ⟨ao, cp, e⟩
    by_cases hlt : k < os.length
    · obtain ⟨⟨kd, body⟩, hx⟩ : ∃ x, os[k]? = some x := ⟨_, List.getElem?_eq_getElem hlt⟩
      rcases HR.out with rfl | ⟨g, off, rfl, hg, hc⟩
      · simp at hlt
      obtain ⟨c2, c3, c4, c5, c6, ⟨r2, r3, r4, a5, a6, n5, n6, m5, m6, rfl, rfl, rfl, rfl, rfl⟩, q0, q1, q2, q3, q4, q5, q6⟩ := hc k _ hx
      have hB := HRe.out _ _ _ _ _ _ hst.out
      have hcell : ∀ o, wk.cell? ⟨g, o, none⟩ = w0.cell? ⟨g, o, none⟩ := fun o => World.cell?_of_block (hB.block g hg)
      have p0 : wk.cell? ⟨g, off + k * 7, none⟩ = some (.int .i64 kd) := (hcell _).trans q0
      have p1 : wk.cell? ⟨g, off + k * 7 + 1, none⟩ = some (.string (str body)) := (hcell _).trans q1
      have p2 := (hcell _).trans q2
      have p3 := (hcell _).trans q3
      have p4 := (hcell _).trans q4
      have p5 := (hcell _).trans q5
      have p6 := (hcell _).trans q6
      have hkI : (k : Int) < (os.length : Int) := by omega
      have hk0 : (0 : Int) ≤ (k : Int) := by omega
      have hwt := wtO_take hx
      have hwl := wtO_le os (k + 1)
      simp only at hwt
      obtain ⟨hsm, hal, hsu⟩ := hbd.out
      clear hc hx q0 q1 q2 q3 q4 q5 q6 hcell hB
      go_upto_region 5 with fail
      obtain ⟨bv, hbv⟩ : ∃ bv : Array Value, bv = #[.int .i64 kd, .string (str body), .int .i64 r2, .int .i64 r3, .int .i64 r4, .slice a5 n5 m5, .slice a6 n6 m6] := ⟨_, rfl⟩
      have st5 := hst.out.box (.cells bv 105)
      have hb5 := alloc_here wk (.cells bv 105)
      rw [← hbv]
      generalize wk.alloc (.cells bv 105) = w5 at *
      have b0 : w5.cell? ⟨wk.heap.size, 0, none⟩ = some (.int .i64 kd) := by simp [World.cell?, hb5, hbv]
      have b1 : w5.cell? ⟨wk.heap.size, 1, none⟩ = some (.string (str body)) := by simp [World.cell?, hb5, hbv]
      have ST5 := Lib.hid st5
      have HB5 := Lib.hid hb5
      have HBV := Lib.hid hbv
      clear p0 p1 p2 p3 p4 p5 p6 st5 hb5 hbv hkI hk0
      have hshut := hin.out.life.shut
      have hmx : IntKind.i64.max = 9223372036854775807 := rfl
      have hbl : body.length ≤ 33554298 := by omega
      have hIn := hin.out.life.inv
      by_cases h0 : kd = 0
      · subst h0
        have HLs := Lib.hid (last_is ST5.out.log)
        have HBr := Lib.hid (broken_is ST5.out.log)
        have hwl1 : IntKind.u64.wrap (all1.length : Int) = (all1.length : Int) := by unfold IntKind.wrap; simp [IntKind.signed, IntKind.bits]; omega
        by_cases hgt : L1.last < all1.length
        · have hbr := hin.out.behind hgt
          have hgt' : decide (L1.last < all1.length) = true := decide_eq_true hgt
          clear hgt
          have hdd := dead_of hbr
          have HAp := Lib.hid (show Calls Tryz.prog 8 #[.pointer (some ⟨l, 0, none⟩), .string ⟨#[45]⟩] w5 (fun e w' => e = .returned (.tuple #[.int .u64 0, .int .i64 262]) ∧ LifeSt (fun k => k = wk.heap.size) w0.heap.size P w l b a (.slice ta all.length tc) w' S1 L1 all1 (.slice ua all1.length uc) ∧ ∀ k, k = wk.heap.size → w'.heap[k]? = w5.heap[k]?) from
            ST5.out.calls fun P' lw => (logAppend_dead lw hdd [45]).mono fun e w' h => ⟨h.1, h.2⟩)
          have INz : Hid (InL L0 S1 L1 all1 (M + 33554432 * ((k + 1 : Nat) : Int))) := Lib.hid (hin.out.mono (by omega))
          have BDz : Hid (LifeBd S1 (j + 6 * (k + 1)) all all1 (k + 1) (wtO (os.take (k + 1)))) := Lib.hid ⟨hsm.mono (by omega), by omega, by omega⟩
          clear hdd hbr
          go_wp2_with fail
          refine HLs.out.mono ?_
          rintro e w6 ⟨rfl, rfl⟩
          go_wp2_with fail
          refine HAp.out.mono ?_
          rintro e wz ⟨rfl, st6, -⟩
          have STz := Lib.hid st6
          clear st6
          go_wp2
          go_roundw
          case rel => exact ⟨k + 1, _, _, _, _, by omega, by go_num, rfl, Lib.hid STz.out.drop, INz, BDz⟩
          case measure => simp [intOf]; omega
        · have hgt' : decide (L1.last < all1.length) = false := decide_eq_false hgt
          clear hgt
          cases hbr : L1.broken with
          | true =>
            rw [hbr] at HBr
            have hdd := dead_of hbr
            have HAp := Lib.hid (show Calls Tryz.prog 8 #[.pointer (some ⟨l, 0, none⟩), .string ⟨#[45]⟩] w5 (fun e w' => e = .returned (.tuple #[.int .u64 0, .int .i64 262]) ∧ LifeSt (fun k => k = wk.heap.size) w0.heap.size P w l b a (.slice ta all.length tc) w' S1 L1 all1 (.slice ua all1.length uc) ∧ ∀ k, k = wk.heap.size → w'.heap[k]? = w5.heap[k]?) from
              ST5.out.calls fun P' lw => (logAppend_dead lw hdd [45]).mono fun e w' h => ⟨h.1, h.2⟩)
            have INz : Hid (InL L0 S1 L1 all1 (M + 33554432 * ((k + 1 : Nat) : Int))) := Lib.hid (hin.out.mono (by omega))
            have BDz : Hid (LifeBd S1 (j + 6 * (k + 1)) all all1 (k + 1) (wtO (os.take (k + 1)))) := Lib.hid ⟨hsm.mono (by omega), by omega, by omega⟩
            clear hdd hbr
            go_wp2_with fail
            refine HLs.out.mono ?_
            rintro e w6 ⟨rfl, rfl⟩
            go_wp2_with fail
            refine HBr.out.mono ?_
            rintro e w6 ⟨rfl, rfl⟩
            go_wp2_with fail
            refine HAp.out.mono ?_
            rintro e wz ⟨rfl, st6, -⟩
            have STz := Lib.hid st6
            clear st6
            go_wp2
            go_roundw
            case rel => exact ⟨k + 1, _, _, _, _, by omega, by go_num, rfl, Lib.hid STz.out.drop, INz, BDz⟩
            case measure => simp [intOf]; omega
          | false =>
            rw [hbr] at HBr
            obtain ⟨hal1, hin2, hok, hno⟩ := hin.out.append hbr (45 :: body) (by simp only [List.length_cons]; omega) (by omega)
            have HAl := Lib.hid hal1
            have HIN2 := Lib.hid hin2
            have HOK := Lib.hid hok
            have HNO := Lib.hid hno
            have hll : L1.last ≤ 4194304 := by omega
            clear hal1 hin2 hok hno
            go_wp2_with fail
            refine HLs.out.mono ?_
            rintro e w6 ⟨rfl, rfl⟩
            go_wp2_with fail
            refine HBr.out.mono ?_
            rintro e w6 ⟨rfl, rfl⟩
            have hcat : ¬ IntKind.i64.max < (((⟨#[45]⟩ : ByteArray).size : Int) + ((str body).size : Int)) := by rw [str_size, hmx]; show ¬ _ < ((1 : Nat) : Int) + _; omega
            have hcat2 : ¬ 9223372036854775807 < 1 + (str body).size := by rw [str_size]; omega
            have hsum2 : (⟨#[45]⟩ : ByteArray) ++ str body = str (45 :: body) := str_append [45] body
            go_wp2_with (at_builtin; refine wpList_append_all ST5.out rfl (.tmp 52) (.tmp 56) rfl rfl (45 :: body) (by simp [Act.eval]) (by omega) ?_)
            intro v2 w7 st7 x7 va2 vc2 hv2
            subst hv2
            have hb7 := x7.trans HB5.out
            have b71 : w7.cell? ⟨wk.heap.size, 1, none⟩ = some (.string (str body)) := by simp [World.cell?, hb7, HBV.out]
            obtain ⟨rr, hrr⟩ : ∃ rr, L1.append S1 (45 :: body) = rr := ⟨_, rfl⟩
            have hsm2 := Lg.append_small (L := L1) hsm (body := 45 :: body) (by simp only [List.length_cons]; omega)
            have hfit := hin.out.fit (by omega) (by omega) hev
            have hAp := st7.calls (S2 := rr.1) (L2 := rr.2.1) (f := 8) (args := #[.pointer (some ⟨l, 0, none⟩), .string (str (45 :: body))]) (R := fun e => e = .returned (.tuple #[.int .u64 rr.2.2.1, .int .i64 rr.2.2.2])) fun P' lw => by
              have := logAppend_any lw hIn hsm (by omega) hfit (45 :: body) (by simp only [List.length_cons]; omega) (.inl number_fault)
              rw [hrr] at this
              exact this.mono fun e w' h => ⟨h.1, h.2⟩
            have hin3 := HIN2.out
            have hok := HOK.out
            have hno := HNO.out
            rw [hrr] at hin3 hok hno hsm2
            obtain ⟨S2, L2, n2, e2⟩ := rr
            simp only at hAp hin3 hok hno hsm2
            have HAp := Lib.hid hAp
            have INz : Hid (InL L0 S2 L2 (all1 ++ [45 :: body]) (M + 33554432 * ((k + 1 : Nat) : Int))) := Lib.hid (hin3.mono (by omega))
            have BDz : Hid (LifeBd S2 (j + 6 * (k + 1)) all (all1 ++ [45 :: body]) (k + 1) (wtO (os.take (k + 1)))) := Lib.hid ⟨hsm2.mono (by omega), by simp only [List.length_append, List.length_cons, List.length_nil]; omega, by simp only [List.map_append, List.sum_append, List.map_cons, List.map_nil, List.sum_cons, List.sum_nil, List.length_cons]; omega⟩
            clear st7 x7 hb7 b1 b0 hrr hAp hin3 hfit hsm2 HIN2 HOK HNO
            by_cases hc : e2 = 0
            · subst hc
              obtain ⟨rfl, hl2, -⟩ := hok rfl
              clear hok hno
              have hwr : IntKind.u64.wrap ((L1.last : Int) + 1) = (L1.last : Int) + 1 := by unfold IntKind.wrap; simp [IntKind.signed, IntKind.bits]; omega
              go_wp2_with fail
              refine HAp.out.mono ?_
              rintro e wz ⟨rfl, st8, -⟩
              have STz := Lib.hid st8
              have HL2 := Lib.hid (last_is st8.log)
              rw [hl2] at HL2
              clear st8 hl2 b71
              go_wp2_with fail
              refine HL2.out.mono ?_
              rintro e w9 ⟨rfl, rfl⟩
              go_wp2
              go_roundw
              case rel => exact ⟨k + 1, _, _, _, _, by omega, by go_num, rfl, Lib.hid STz.out.drop, INz, BDz⟩
              case measure => simp [intOf]; omega
            · obtain ⟨rfl, hl2⟩ := hno hc
              clear hok hno
              have hc' : (e2 == 0) = false := by simpa using hc
              go_wp2_with fail
              refine HAp.out.mono ?_
              rintro e wz ⟨rfl, st8, -⟩
              have STz := Lib.hid st8
              have HL2 := Lib.hid (broken_is st8.log)
              rw [hl2] at HL2
              clear st8 hl2 b71
              go_wp2_with fail
              refine HL2.out.mono ?_
              rintro e w9 ⟨rfl, rfl⟩
              go_wp2
              go_roundw
              case rel => exact ⟨k + 1, _, _, _, _, by omega, by go_num, rfl, Lib.hid STz.out.drop, INz, BDz⟩
              case measure => simp [intOf]; omega
      · have h0' : (kd == 0) = false := by simpa using h0
        clear h0
        by_cases h1 : kd = 1
        · subst h1
          obtain ⟨hin2, hlast⟩ := hin.out.sync
          have hsm2 := Lg.sync_small (L := L1) hsm
          obtain ⟨rr, hrr⟩ : ∃ rr, L1.sync S1 = rr := ⟨_, rfl⟩
          have hAp := ST5.out.calls (S2 := rr.1) (L2 := rr.2.1) (f := 9) (args := #[.pointer (some ⟨l, 0, none⟩)]) (R := fun e => e = .returned (.int .i64 rr.2.2)) fun P' lw => by
            have := logSyn_any lw hIn hsm (by omega) (.inl number_fault)
            rw [hrr] at this
            exact this.mono fun e w' h => ⟨h.1, h.2⟩
          rw [hrr] at hin2 hlast hsm2
          obtain ⟨S2, L2, e2⟩ := rr
          simp only at hAp hin2 hlast hsm2
          have HAp := Lib.hid hAp
          have INz : Hid (InL L0 S2 L2 all1 (M + 33554432 * ((k + 1 : Nat) : Int))) := Lib.hid (hin2.mono (by omega))
          have BDz : Hid (LifeBd S2 (j + 6 * (k + 1)) all all1 (k + 1) (wtO (os.take (k + 1)))) := Lib.hid ⟨hsm2.mono (by omega), by omega, by omega⟩
          clear hAp hrr hin2 hsm2
          by_cases hc : e2 = 0
          · subst hc
            have hq := hlast rfl
            clear hlast
            go_wp2_with fail
            refine HAp.out.mono ?_
            rintro e wz ⟨rfl, st8, -⟩
            have STz := Lib.hid st8
            have HL2 := Lib.hid (last_is st8.log)
            have HL3 := Lib.hid (lasting_is st8.log)
            rw [hq] at HL3
            generalize L2.last = nl at *
            clear st8 hq
            go_wp2_with fail
            refine HL3.out.mono ?_
            rintro e w9 ⟨rfl, rfl⟩
            go_wp2_with fail
            refine HL2.out.mono ?_
            rintro e w9 ⟨rfl, rfl⟩
            go_wp2
            go_roundw
            case rel => exact ⟨k + 1, _, _, _, _, by omega, by go_num, rfl, Lib.hid STz.out.drop, INz, BDz⟩
            case measure => simp [intOf]; omega
          · have hc' : (e2 == 0) = false := by simpa using hc
            clear hc hlast
            go_wp2_with fail
            refine HAp.out.mono ?_
            rintro e wz ⟨rfl, st8, -⟩
            have STz := Lib.hid st8
            clear st8
            go_wp2
            go_roundw
            case rel => exact ⟨k + 1, _, _, _, _, by omega, by go_num, rfl, Lib.hid STz.out.drop, INz, BDz⟩
            case measure => simp [intOf]; omega
        · have h1' : (kd == 1) = false := by simpa using h1
          clear h1
          by_cases h2 : kd = 2
          · subst h2
            have HBr := Lib.hid (broken_is ST5.out.log)
            cases hbr : L1.broken with
            | true =>
              rw [hbr] at HBr
              have STz := ST5
              have INz : Hid (InL L0 S1 L1 all1 (M + 33554432 * ((k + 1 : Nat) : Int))) := Lib.hid (hin.out.mono (by omega))
              have BDz : Hid (LifeBd S1 (j + 6 * (k + 1)) all all1 (k + 1) (wtO (os.take (k + 1)))) := Lib.hid ⟨hsm.mono (by omega), by omega, by omega⟩
              go_wp2_with fail
              refine HBr.out.mono ?_
              rintro e w6 ⟨rfl, rfl⟩
              go_wp2
              go_roundw
              case rel => exact ⟨k + 1, _, _, _, _, by omega, by go_num, rfl, Lib.hid STz.out.drop, INz, BDz⟩
              case measure => simp [intOf]; omega
            | false =>
              rw [hbr] at HBr
              have hwb := wholeB_le all1
              have hin2 := hin.out.rewrite hbr (by omega) (by omega) (by omega)
              have hsm2 := Lg.rewrite_small (L := L1) hsm (body := 61 :: wholeB all1) (by simp only [List.length_cons]; omega)
              have hfit := hin.out.fit (by omega) (by omega) hev
              have HWh := Lib.hid (whole_any _ all1 (by omega) (by omega) w5 ST5.out.tat)
              obtain ⟨wb, hwbq⟩ : ∃ wb, wholeB all1 = wb := ⟨_, rfl⟩
              rw [hwbq] at hin2 hsm2 hwb HWh
              obtain ⟨rr, hrr⟩ : ∃ rr, L1.rewrite S1 (61 :: wb) = rr := ⟨_, rfl⟩
              have HAp := Lib.hid (fun W (st : LifeSt (fun k => k = wk.heap.size) w0.heap.size P w l b a (.slice ta all.length tc) W S1 L1 all1 (.slice ua all1.length uc)) => st.calls (S2 := rr.1) (L2 := rr.2.1) (f := 10) (args := #[.pointer (some ⟨l, 0, none⟩), .string (str (61 :: wb))]) (R := fun e => e = .returned (.int .i64 rr.2.2)) fun P' lw => by
                have := logRewrite_any lw hIn hsm (by omega) hfit (61 :: wb) (by simp only [List.length_cons]; omega) (.inl number_fault)
                rw [hrr] at this
                exact this.mono fun e w' h => ⟨h.1, h.2⟩)
              rw [hrr] at hin2 hsm2
              obtain ⟨S2, L2, e2⟩ := rr
              simp only at hin2 hsm2 HAp
              have INz : Hid (InL L0 S2 L2 all1 (M + 33554432 * ((k + 1 : Nat) : Int))) := Lib.hid (hin2.mono (by omega))
              have BDz : Hid (LifeBd S2 (j + 6 * (k + 1)) all all1 (k + 1) (wtO (os.take (k + 1)))) := Lib.hid ⟨hsm2.mono (by omega), by omega, by omega⟩
              have hcat : ¬ IntKind.i64.max < (((⟨#[61]⟩ : ByteArray).size : Int) + ((str wb).size : Int)) := by rw [str_size, hmx]; show ¬ _ < ((1 : Nat) : Int) + _; omega
              have hcat2 : ¬ 9223372036854775807 < 1 + (str wb).size := by rw [str_size]; omega
              have hsum2 : (⟨#[61]⟩ : ByteArray) ++ str wb = str (61 :: wb) := str_append [61] wb
              clear hin2 hsm2 hrr hwbq hwb hfit
              go_wp2_with fail
              refine HBr.out.mono ?_
              rintro e w6 ⟨rfl, rfl⟩
              go_wp2_with fail
              refine HWh.out.mono ?_
              rintro e w7 ⟨rfl, b7⟩
              have ST7 := Lib.hid (ST5.out.below b7)
              clear b7
              go_wp2_with fail
              refine (HAp.out _ ST7.out).mono ?_
              rintro e wz ⟨rfl, st8, -⟩
              have STz := Lib.hid st8
              clear st8
              go_wp2
              go_roundw
              case rel => exact ⟨k + 1, _, _, _, _, by omega, by go_num, rfl, Lib.hid STz.out.drop, INz, BDz⟩
              case measure => simp [intOf]; omega
          · have h2' : (kd == 2) = false := by simpa using h2
            clear h2
            have STz := ST5
            have INz : Hid (InL L0 S1 L1 all1 (M + 33554432 * ((k + 1 : Nat) : Int))) := Lib.hid (hin.out.mono (by omega))
            have BDz : Hid (LifeBd S1 (j + 6 * (k + 1)) all all1 (k + 1) (wtO (os.take (k + 1)))) := Lib.hid ⟨hsm.mono (by omega), by omega, by omega⟩
            go_wp2
            go_roundw
            case rel => exact ⟨k + 1, _, _, _, _, by omega, by go_num, rfl, Lib.hid STz.out.drop, INz, BDz⟩
            case measure => simp [intOf]; omega
    · obtain rfl : k = os.length := by omega
      rw [List.take_length] at hbd
      go_wp2
      go_ret2
      exact ⟨S1, L1, all1, _, rfl, hst.out, hin.out, hbd.out⟩
end
end Go.Proofs.YtfbjmhipjfjaeaaGreatDoor
