/- The walk of DiskStops. -/
import Derived.Test.YtbjlffhnkcbnmaaDiskDoesW
namespace Go.Proofs.Ytbjlffhnkcbnmaa
open Go.ChangeShapes Go.WideShapes Go.ChangeAt Go.RowKit Go.Maps Pl
set_option linter.unusedVariables false
set_option linter.unusedSimpArgs false

namespace Pl
/-- A disk that a plan stops at a step. -/
structure Stp (S : Dk) (st : Int) : Prop where
  plan : S.plan = [(st, 3, 0)]
  le : (S.steps : Int) ≤ st
  dn : S.down = true ↔ (S.steps : Int) = st
theorem Stp.like {S T : Dk} {st : Int} (h : Stp S st) (hp : T.plan = S.plan) (hs : T.steps = S.steps) (hd : T.down = S.down) : Stp T st := ⟨hp.trans h.plan, by rw [hs]; exact h.le, by rw [hs, hd]; exact h.dn⟩
theorem Stp.fault {S : Dk} {st : Int} (h : Stp S st) (hd : S.down = false) : Stp S.faultS st := by
  have hne : (S.steps : Int) ≠ st := fun e => by have := h.dn.2 e; rw [hd] at this; cases this
  have hlt : (S.steps : Int) + 1 ≤ st := by have := h.le; omega
  have hst : (S.faultS.steps : Int) = (S.steps : Int) + 1 := Int.natCast_succ _
  refine ⟨h.plan, by rw [hst]; exact hlt, ?_⟩
  rw [hst]
  show (S.down || match S.hit with | none => false | some p => decide (p.2.1 = 3)) = true ↔ _
  have hh : S.hit = if st = (S.steps : Int) + 1 then some (st, 3, 0) else none := by
    unfold Dk.hit
    rw [h.plan]
    by_cases e : st = (S.steps : Int) + 1 <;> simp [e]
  rw [hh, hd]
  by_cases e : st = (S.steps : Int) + 1
  · rw [if_pos e]; simp; exact e.symm
  · rw [if_neg e]; simp; exact fun h => e h.symm
theorem askE_up {S : Dk} {n : Tx} (h : S.askE n = 0 ∨ S.askE n = 50) : S.down = false := by
  cases hd : S.down with
  | false => rfl
  | true => unfold Dk.askE at h; rw [if_pos hd] at h; omega
theorem Stp.deed {S : Dk} {st : Int} (h : Stp S st) {a : Dd} (ha : a.kind < 7) : Stp (doS S a) st := by
  have up0 : ∀ n, S.askE n = 0 → Stp S.faultS st := fun n hn => h.fault (askE_up (.inl hn))
  unfold doS
  split
  · unfold Dk.createS
    split
    · exact h
    next hn =>
    have hf := h.fault (askE_up (.inr (Classical.not_not.1 hn)))
    split
    · exact hf
    · exact hf.like rfl rfl rfl
  split
  · unfold Dk.appendS
    split
    · exact h
    next hn => exact (up0 _ (Classical.not_not.1 hn)).like rfl rfl rfl
  split
  · unfold Dk.truncS
    split
    · exact h
    next hn =>
    have hf := up0 _ (Classical.not_not.1 hn)
    split
    · exact hf
    · exact hf.like rfl rfl rfl
  split
  · unfold Dk.syncS
    split
    · exact h
    next hn =>
    have hf := up0 _ (Classical.not_not.1 hn)
    split
    · exact hf
    · exact hf.like rfl rfl rfl
  split
  · unfold Dk.renameS
    split
    · exact h
    next hn =>
    have hf := up0 _ (Classical.byContradiction fun hx => hn (.inr hx))
    split
    · exact hf
    · exact hf.like rfl rfl rfl
  split
  · unfold Dk.removeS
    split
    · exact h
    next hn =>
    have hf := up0 _ (Classical.not_not.1 hn)
    split
    · exact hf
    · exact hf.like rfl rfl rfl
  split
  · unfold Dk.namesS
    split
    · exact h
    next hn =>
    have hf := h.fault (by simpa using hn)
    split
    · exact hf
    · exact hf.like rfl rfl rfl
  split
  · omega
  split
  · omega
  · exact h
theorem stp_new (st : Int) (h : 1 ≤ st) : Dk.new.planE [(st, 3, 0)] = 0 ∧ Stp (Dk.new.planS [(st, 3, 0)]) st := by
  have hok : planOk (Dk.new.steps : Int) [(st, 3, 0)] = true := by
    show (decide ((0 : Int) < st ∧ (1 : Int) ≤ 3 ∧ (3 : Int) ≤ 3 ∧ (0 : Int) ≤ 0 ∧ ((0 : Int) ≤ 0 ∨ (3 : Int) = 2)) && true) = true
    rw [decide_eq_true (by omega)]; rfl
  refine ⟨by unfold Dk.planE; rw [if_pos ⟨by simp, hok⟩], ?_⟩
  unfold Dk.planS
  rw [if_pos ⟨by simp, hok⟩]
  exact ⟨rfl, by show ((0 : Nat) : Int) ≤ st; omega, by show (false = true) ↔ ((0 : Nat) : Int) = st; constructor; intro h; cases h; intro h; omega⟩
theorem down_all {S : Dk} (hd : S.down = true) (n : Tx) : S.askE n = 53 ∧ S.readT n = [] ∧ S.createE n = 53 ∧ S.createS n = S ∧ S.namesE = 53 ∧ S.namesS = S := by
  have ha : S.askE n = 53 := by unfold Dk.askE; rw [if_pos hd]
  exact ⟨ha, by unfold Dk.readT; rw [if_neg (by omega)], by unfold Dk.createE; rw [if_neg (by omega), if_pos (by omega), ha], by unfold Dk.createS; rw [if_pos (by omega)], by unfold Dk.namesE; rw [if_pos hd], by unfold Dk.namesS; rw [if_pos hd]⟩
end Pl
theorem TwoEnd.mono {P Q : Nat → Prop} {b c : Nat} {S T : Dk} {v : Value} {w w' : World} {e : Ending} (h : TwoEnd P b c S T v w e w') (hPQ : ∀ k, P k → Q k) : TwoEnd Q b c S T v w e w' :=
  ⟨h.1, h.2.1.mono fun k hk => hk.imp (hPQ k) id, h.2.2.mono fun k hk _ => hPQ k hk⟩
namespace Duo
variable {H : Nat → Prop} {w1 w w' : World} {b c j : Nat} {S T : Dk}
/-- A plan that is just laid. -/
theorem plan1 (h : Duo H w1 w b c S T) (hS : S.Small j) (hj : j ≤ 4194300) (l : List Flt) (hl : l.length ≤ 4194304) (v : Value) (hv : QRow w (fun _ => True) v l) (hp : PRow w (fun _ => True) v l) :
    Calls Try.prog 22 #[.pointer (some ⟨b, 0, none⟩), v] w (DuoEnd H w1 b c (S.planS l) T (.int .i64 (S.planE l))) :=
  (h.1.p fun F _ d => plan_any d hS (by omega) v l hp hl).mono fun e w' he => h.of he
/-- A crash with numbers that were just laid. -/
theorem crash1 (h : Duo H w1 w b c S T) (hI : S.Inv) (hS : S.Small j) (hj : j ≤ 4194300) (k : Int) (v : Value) (bs : List Int) (hb : Below w.heap.size w w') (hv : IRow w' (fun g => w.heap.size ≤ g) v bs) (hbl : bs.length ≤ 4194304) :
    Calls Try.prog 12 #[.pointer (some ⟨b, 0, none⟩), .agg #[.int .i64 k, v]] w' (DuoEnd H w1 b c (S.crashS k bs) T (.tuple #[])) := by
  obtain ⟨H', h2, hH⟩ := h.at_
  exact ((h2.below hb).p fun F hF d => crash_any d hI hS (by omega) k v bs hv (fun x hx hf => by have := (hH x (hF x hf)).2; omega) hbl).mono fun e w' he => (h.below hb).of (he.mono fun k hk => (hH k hk).1)
theorem rcrash1 (h : Duo H w1 w b c S T) (hI : T.Inv) (hS : T.Small j) (hj : j ≤ 4194300) (k : Int) (v : Value) (bs : List Int) (hb : Below w.heap.size w w') (hv : IRow w' (fun g => w.heap.size ≤ g) v bs) (hbl : bs.length ≤ 4194304) :
    Calls Try.prog 28 #[.pointer (some ⟨c, 0, none⟩), .agg #[.int .i64 k, v]] w' (DuoEnd H w1 b c S (T.crashS k bs) (.tuple #[])) := by
  obtain ⟨H', h2, hH⟩ := h.at_
  exact ((h2.below hb).r fun F hF d => refCrash_any d hI hS hj k v bs hv (fun x hx hf => by have := (hH x (hF x hf)).2; omega) hbl).mono fun e w' he => (h.below hb).of (he.mono fun k hk => (hH k hk).1)
theorem steps (h : Duo H w1 w b c S T) : Calls Try.prog 25 #[.pointer (some ⟨b, 0, none⟩)] w fun e w' => e = .returned (.int .i64 S.steps) ∧ w = w' := h.1.steps
theorem down (h : Duo H w1 w b c S T) : Calls Try.prog 24 #[.pointer (some ⟨b, 0, none⟩)] w fun e w' => e = .returned (.bool S.down) ∧ w = w' := h.1.down
end Duo
theorem laid_faults {w : World} {g : Nat} {x y z : Int} (h : w.heap[g]? = some (.cells #[.int .i64 x, .int .i64 y, .int .i64 z] 58 (0, 0))) :
    PRow w (fun _ => True) (.slice (some ⟨g, 0, none⟩) 1 1) [(x, y, z)] ∧ QRow w (fun _ => True) (.slice (some ⟨g, 0, none⟩) 1 1) [(x, y, z)] := by
  have hlt := (Array.getElem?_eq_some_iff.1 h).1
  have hc : ∀ (j : Nat) (p : Flt), [(x, y, z)][j]? = some p → w.cell? ⟨g, 0 + j * 3, none⟩ = some (.int .i64 p.1) ∧ w.cell? ⟨g, 0 + j * 3 + 1, none⟩ = some (.int .i64 p.2.1) ∧ w.cell? ⟨g, 0 + j * 3 + 2, none⟩ = some (.int .i64 p.2.2) := fun j p hp => by
    match j with
    | 0 => simp at hp; subst hp; exact ⟨by simp [World.cell?, h], by simp [World.cell?, h], by simp [World.cell?, h]⟩
    | j + 1 => simp at hp
  exact ⟨⟨_, _, rfl, .inr ⟨g, 0, rfl, trivial, hlt, ⟨_, _, h⟩, hc⟩⟩, ⟨_, _, rfl, .inr ⟨g, 0, rfl, trivial, hlt, hc⟩⟩⟩
theorem laid_int {w : World} {g : Nat} {x : Int} {G : Nat → Prop} (h : w.heap[g]? = some (.cells #[.int .i64 x] 3 (0, 0))) (hG : G g) : IRow w G (.slice (some ⟨g, 0, none⟩) 1 1) [x] := by
  have hlt := (Array.getElem?_eq_some_iff.1 h).1
  refine ⟨_, _, rfl, .inr ⟨g, 0, rfl, hG, hlt, fun j p hp => ?_⟩⟩
  match j with
  | 0 => simp at hp; subst hp; simp [World.cell?, h]
  | j + 1 => simp at hp
set_option maxRecDepth 100000 in
set_option maxHeartbeats 6400000 in
theorem diskStops_walk (v : Value) (ds : List Dd) (hds : ∀ a ∈ ds, a.Ok) (hdl : ds.length ≤ 1048576) (step : Int) (w : World) (hv : DdRow w (fun g => g < w.heap.size) v ds) :
    Calls Try.prog 6 #[v, .int .i64 step] w fun e w' => e = .returned (.bool true) ∧ Below w.heap.size w w' := by
  obtain ⟨va, vc, rfl⟩ := hv.shape
  have HV := Lib.hid hv
  have HDS := Lib.hid hds
  clear hv hds
  by_cases h1 : step < 1
  · have hst1 : (1 : Int) ≤ (3 : Int) := by omega
    go_enter Try.func6, Try.ntmps6
    go_wp2_with fail
    ((refine Calls.mono (new_any w) ?_); rintro e w2 ⟨b, F, rfl, d2, hF2, b2⟩)
    have HD3 := Lib.hid (duo_new d2 hF2 b2)
    clear d2 hF2 b2
    go_wp2_with fail
    have hg3 : w2.alloc rNew = w2.alloc (.cells #[.slice none 0 0, .slice none 0 0, .slice none 0 0, .slice none 0 0, .slice none 0 0, .int .i64 0, .bool false] 52) := rfl
    rw [← hg3]
    obtain ⟨c, hc⟩ : ∃ c, c = w2.heap.size := ⟨_, rfl⟩
    rw [← hc] at HD3 ⊢
    obtain ⟨w3, hw3⟩ : ∃ w3, w3 = w2.alloc rNew := ⟨_, rfl⟩
    rw [← hw3] at HD3 ⊢
    clear hg3 hw3 hc
    ((refine Calls.mono (awake_any w3) ?_); rintro e w4 ⟨rfl, b4⟩)
    have HD4 := Lib.hid (HD3.out.below b4)
    clear b4
    go_wp2_with fail
    obtain ⟨hpe, hps⟩ := stp_new (3 : Int) hst1
    have HP1 := Lib.hid (laid_faults (heap_alloc_new w4 (.cells #[.int .i64 (3 : Int), .int .i64 3, .int .i64 0] 58)))
    have HPL := Lib.hid ((HD4.out.alloc (.cells #[.int .i64 (3 : Int), .int .i64 3, .int .i64 0] 58)).plan1 (j := 0) Dk.Small.new (by omega) _ (by simp) _ HP1.out.2 HP1.out.1)
    obtain ⟨S0, hS0⟩ : ∃ S0, Dk.new.planS [((3 : Int), 3, 0)] = S0 := ⟨_, rfl⟩
    have HI0 := Lib.hid (show S0.Inv from by rw [← hS0]; exact Dk.Inv.new.set _)
    have HM0 := Lib.hid (show S0.Small 0 from by rw [← hS0]; exact Dk.Small.new.set _)
    have HE0 := Lib.hid hpe
    rw [hS0] at hps
    have HST := Lib.hid hps
    rw [hpe, hS0] at HPL
    have HS0 := Lib.hid hS0
    clear hpe hps hS0
    ((refine Calls.mono HPL.out ?_); rintro e w5 ⟨rfl, hd5⟩)
    have HD5 := Lib.hid hd5
    clear hd5
    have HP2 := Lib.hid (laid_faults (heap_alloc_new w5 (.cells #[.int .i64 (3 : Int), .int .i64 3, .int .i64 0] 58)))
    have HSL := Lib.hid ((HD5.out.alloc (.cells #[.int .i64 (3 : Int), .int .i64 3, .int .i64 0] 58)).rset (j := 0) Dk.Small.new (by omega) _ _ HP2.out.2 (by simp))
    rw [HE0.out, HS0.out] at HSL
    go_wp2_with fail
    ((refine Calls.mono HSL.out ?_); rintro e w6 ⟨rfl, hd6⟩)
    have HD6 := Lib.hid hd6
    clear hd6
    go_wp2_with fail
    go_loopw [7] (fun i wr => ∃ (q : Nat) (S : Dk), q ≤ ds.length ∧ i = .int .i64 q ∧ Hid (Duo (fun _ => False) w wr b c S S) ∧ Hid S.Inv ∧ Hid (S.Small q) ∧ Hid (Stp S (3 : Int))) (fun i _ => ds.length - (intOf i).toNat)
    case atStart => exact ⟨0, S0, Nat.zero_le _, rfl, HD6.out, HI0.out, HM0.out, HST.out⟩
    case round =>
      obtain ⟨q, S, hq, rfl, hd, hI, hS, hT⟩ := hrel
      by_cases hql : q < ds.length
      · obtain ⟨a, ha⟩ : ∃ a, ds[q]? = some a := ⟨_, List.getElem?_eq_getElem hql⟩
        have haO := HDS.out a (List.mem_of_getElem? ha)
        obtain ⟨g, off, fv, bv, rfl, -, hg, k0, k1, k2, k3, k4, k5, k6, hqr, hir⟩ := HV.out.at_ ha
        have hcell : ∀ o, wr.cell? ⟨g, o, none⟩ = w.cell? ⟨g, o, none⟩ := fun o => World.cell?_of_block (hd.out.2.block g hg (fun h => h))
        have c0 := (hcell _).trans k0
        have c1 := (hcell _).trans k1
        have c2 := (hcell _).trans k2
        have c3 := (hcell _).trans k3
        have c4 := (hcell _).trans k4
        have c5 := (hcell _).trans k5
        have c6 := (hcell _).trans k6
        have hqI : (q : Int) < (ds.length : Int) := by omega
        have hq0 : (0 : Int) ≤ (q : Int) := by omega
        by_cases hk : 7 ≤ a.kind
        · clear ha hcell k0 k1 k2 k3 k4 k5 k6 hqr hir
          go_wp2
          go_roundw
          case rel => exact ⟨q + 1, S, by omega, by go_num, hd.out, hI.out, hS.out.mono (by omega), hT.out⟩
          case measure => simp [intOf]; omega
        · have HDo := Lib.hid (deed_any hd.out hI.out hS.out (by omega) a haO (.agg #[.int .i64 a.kind, .string (str a.A), .string (str a.B), .int .i64 a.n, fv, .int .i64 a.k, bv]) ⟨fv, bv, rfl, hqr.kept hd.out.2 (fun _ _ h => h), hir.kept hd.out.2 (fun _ _ h => h)⟩ (K := fun g => g < w.heap.size) (fun k hk hh => hh.elim id (fun h => by omega)))
          have HT2 := Lib.hid (hT.out.deed (a := a) (by omega))
          obtain ⟨T, hTe⟩ : ∃ T, doS S a = T := ⟨_, rfl⟩
          have HTI := Lib.hid (show T.Inv from by rw [← hTe]; exact doS_inv hI.out a)
          have HTS := Lib.hid (show T.Small (q + 1) from by rw [← hTe]; exact doS_small hS.out haO)
          rw [hTe] at HDo HT2
          have hle : ¬ (3 : Int) < (T.steps : Int) := by have := HT2.out.le; omega
          clear ha hcell k0 k1 k2 k3 k4 k5 k6 hqr hir hTe
          cases hdn : T.down with
          | true =>
            have hse : ((T.steps : Int) == (3 : Int)) = true := by rw [beq_iff_eq]; exact HT2.out.dn.1 hdn
            go_wp2_with fail
            ((refine Calls.mono HDo.out ?_); rintro e w7 ⟨rfl, hd7⟩)
            have HD7 := Lib.hid hd7
            have HDn := Lib.hid hd7.down
            have HSt := Lib.hid hd7.steps
            rw [hdn] at HDn
            clear hd7
            go_wp2_with fail
            ((refine Calls.mono HDn.out ?_); rintro e w8 ⟨rfl, rfl⟩)
            go_wp2_with fail
            ((refine Calls.mono HSt.out ?_); rintro e w8 ⟨rfl, rfl⟩)
            go_wp2_with fail
            ((refine Calls.mono HSt.out ?_); rintro e w8 ⟨rfl, rfl⟩)
            go_wp2
            go_roundw
            case rel => exact ⟨q + 1, T, by omega, by go_num, HD7.out, HTI.out, HTS.out, HT2.out⟩
            case measure => simp [intOf]; omega
          | false =>
            have hse : ((T.steps : Int) == (3 : Int)) = false := by rw [beq_eq_false_iff_ne]; exact fun h => by have := HT2.out.dn.2 h; rw [hdn] at this; cases this
            go_wp2_with fail
            ((refine Calls.mono HDo.out ?_); rintro e w7 ⟨rfl, hd7⟩)
            have HD7 := Lib.hid hd7
            have HDn := Lib.hid hd7.down
            have HSt := Lib.hid hd7.steps
            rw [hdn] at HDn
            clear hd7
            go_wp2_with fail
            ((refine Calls.mono HDn.out ?_); rintro e w8 ⟨rfl, rfl⟩)
            go_wp2_with fail
            ((refine Calls.mono HSt.out ?_); rintro e w8 ⟨rfl, rfl⟩)
            go_wp2_with fail
            ((refine Calls.mono HSt.out ?_); rintro e w8 ⟨rfl, rfl⟩)
            go_wp2
            go_roundw
            case rel => exact ⟨q + 1, T, by omega, by go_num, HD7.out, HTI.out, HTS.out, HT2.out⟩
            case measure => simp [intOf]; omega
      · obtain rfl : q = ds.length := by omega
        have HDn := Lib.hid hd.out.down
        cases hdn : S.down with
        | true =>
          have hse : (S.steps : Int) = (3 : Int) := hT.out.dn.1 hdn
          obtain ⟨ea, et, -⟩ := down_all hdn [97]
          obtain ⟨-, -, ec, es, en, et2⟩ := down_all hdn [110, 101, 119]
          have HRd := Lib.hid (hd.out.1.read hI.out [97] (by simp))
          unfold ReadEnd at HRd
          rw [et, ea] at HRd
          have HNm := Lib.hid (hd.out.1.names hI.out hS.out (by omega))
          rw [if_pos hdn] at HNm
          have HLs := Lib.hid (fun W (hb : Below wr.heap.size wr W) => (hd.out.1.below hb).lasting hI.out hS.out (by omega))
          rw [if_pos hdn] at HLs
          have HCr := Lib.hid (fun W (hb : Below wr.heap.size wr W) => (hd.out.below hb).create hI.out hS.out (by omega) [110, 101, 119] (by simp))
          rw [ec, es] at HCr
          have HSy := Lib.hid (fun W (h : Duo (fun _ => False) w W b c S S) => h.syncNames hI.out hS.out (by omega))
          rw [en, et2] at HSy
          rw [hdn] at HDn
          clear ea et ec es en et2
          go_wp2_with fail
          ((refine Calls.mono HDn.out ?_); rintro e wa ⟨rfl, rfl⟩)
          go_wp2_with fail
          ((refine Calls.mono HRd.out ?_); rintro e wa ⟨rfl, rfl⟩)
          go_wp2_with fail
          ((refine Calls.mono HNm.out ?_); rintro e wa ⟨va', rfl, za, ba⟩)
          obtain ⟨aa, ca, rfl, -⟩ := (show TRow wa va' [] from za.srow).open
          have HBa := Lib.hid ba
          clear za ba
          go_wp2_with fail
          ((refine Calls.mono (HLs.out _ HBa.out) ?_); rintro e wb ⟨vb', rfl, zb, bb⟩)
          obtain ⟨ab, cb, rfl, -⟩ := (show TRow wb vb' [] from zb.srow).open
          have HBb := Lib.hid (HBa.out.trans (bb.mono HBa.out.size))
          clear zb bb
          go_wp2_with fail
          ((refine Calls.mono (HCr.out _ HBb.out) ?_); rintro e wc ⟨rfl, hdc⟩)
          have HDc := Lib.hid hdc
          clear hdc
          go_wp2_with fail
          ((refine Calls.mono (HSy.out _ HDc.out) ?_); rintro e wx ⟨rfl, hdd⟩)
          have hdx := Lib.hid hdd
          have HSt := Lib.hid hdd.steps
          rw [hse] at HSt
          clear hdd
          go_wp2_with fail
          ((refine Calls.mono HSt.out ?_); rintro e wx0 ⟨rfl, rfl⟩)
          have HC1 := Lib.hid (hdx.out.crash1 hI.out hS.out (by omega) 1099511627776 _ [1099511627776] ((Below.refl _ _).alloc (Nat.le_refl _) (.cells #[.int .i64 1099511627776] 3)) (laid_int (heap_alloc_new wx _) (Nat.le_refl _)) (by simp))
          go_wp2_with fail
          ((refine Calls.mono HC1.out ?_); rintro e wy ⟨rfl, hdy⟩)
          have HDy := Lib.hid hdy
          clear hdy
          have HC2 := Lib.hid (HDy.out.rcrash1 hI.out hS.out (by omega) 1099511627776 _ [1099511627776] ((Below.refl _ _).alloc (Nat.le_refl _) (.cells #[.int .i64 1099511627776] 3)) (laid_int (heap_alloc_new wy _) (Nat.le_refl _)) (by simp))
          go_wp2_with fail
          ((refine Calls.mono HC2.out ?_); rintro e wz ⟨rfl, hdz⟩)
          have HDz := Lib.hid hdz
          have HDn2 := Lib.hid hdz.down
          rw [show (S.crashS 1099511627776 [1099511627776]).down = false from rfl] at HDn2
          clear hdz
          go_wp2_with fail
          ((refine Calls.mono HDn2.out ?_); rintro e wq ⟨rfl, rfl⟩)
          go_wp2_with fail
          ((refine Calls.mono (like_any HDz.out (hI.out.crash _ _) (hS.out.crash _ _) (by omega) [] (by simp) (by simp) _ (show SRow _ _ _ from ⟨none, 0, rfl, .inl rfl⟩)) ?_); rintro e wu ⟨rfl, hdu⟩)
          have HDu := Lib.hid hdu
          clear hdu
          go_wp2
          go_ret
          exact ⟨rfl, HDu.out.2.below (fun _ h => h.elim) (Nat.le_refl _)⟩
        | false =>
          rw [hdn] at HDn
          go_wp2_with fail
          ((refine Calls.mono HDn.out ?_); rintro e wa ⟨rfl, hwx⟩)
          obtain ⟨wx, hwx2⟩ : ∃ wx, wx = wa := ⟨_, rfl⟩
          rw [← hwx2]
          have hdx := Lib.hid (show Duo (fun _ => False) w wx b c S S from by rw [hwx2, ← hwx]; exact hd.out)
          clear hwx hwx2
          have HC1 := Lib.hid (hdx.out.crash1 hI.out hS.out (by omega) 1099511627776 _ [1099511627776] ((Below.refl _ _).alloc (Nat.le_refl _) (.cells #[.int .i64 1099511627776] 3)) (laid_int (heap_alloc_new wx _) (Nat.le_refl _)) (by simp))
          go_wp2_with fail
          ((refine Calls.mono HC1.out ?_); rintro e wy ⟨rfl, hdy⟩)
          have HDy := Lib.hid hdy
          clear hdy
          have HC2 := Lib.hid (HDy.out.rcrash1 hI.out hS.out (by omega) 1099511627776 _ [1099511627776] ((Below.refl _ _).alloc (Nat.le_refl _) (.cells #[.int .i64 1099511627776] 3)) (laid_int (heap_alloc_new wy _) (Nat.le_refl _)) (by simp))
          go_wp2_with fail
          ((refine Calls.mono HC2.out ?_); rintro e wz ⟨rfl, hdz⟩)
          have HDz := Lib.hid hdz
          have HDn2 := Lib.hid hdz.down
          rw [show (S.crashS 1099511627776 [1099511627776]).down = false from rfl] at HDn2
          clear hdz
          go_wp2_with fail
          ((refine Calls.mono HDn2.out ?_); rintro e wq ⟨rfl, rfl⟩)
          go_wp2_with fail
          ((refine Calls.mono (like_any HDz.out (hI.out.crash _ _) (hS.out.crash _ _) (by omega) [] (by simp) (by simp) _ (show SRow _ _ _ from ⟨none, 0, rfl, .inl rfl⟩)) ?_); rintro e wu ⟨rfl, hdu⟩)
          have HDu := Lib.hid hdu
          clear hdu
          go_wp2
          go_ret
          exact ⟨rfl, HDu.out.2.below (fun _ h => h.elim) (Nat.le_refl _)⟩
  by_cases h2 : 1000 < step
  · have hst1 : (1 : Int) ≤ (3 : Int) := by omega
    go_enter Try.func6, Try.ntmps6
    go_wp2_with fail
    ((refine Calls.mono (new_any w) ?_); rintro e w2 ⟨b, F, rfl, d2, hF2, b2⟩)
    have HD3 := Lib.hid (duo_new d2 hF2 b2)
    clear d2 hF2 b2
    go_wp2_with fail
    have hg3 : w2.alloc rNew = w2.alloc (.cells #[.slice none 0 0, .slice none 0 0, .slice none 0 0, .slice none 0 0, .slice none 0 0, .int .i64 0, .bool false] 52) := rfl
    rw [← hg3]
    obtain ⟨c, hc⟩ : ∃ c, c = w2.heap.size := ⟨_, rfl⟩
    rw [← hc] at HD3 ⊢
    obtain ⟨w3, hw3⟩ : ∃ w3, w3 = w2.alloc rNew := ⟨_, rfl⟩
    rw [← hw3] at HD3 ⊢
    clear hg3 hw3 hc
    ((refine Calls.mono (awake_any w3) ?_); rintro e w4 ⟨rfl, b4⟩)
    have HD4 := Lib.hid (HD3.out.below b4)
    clear b4
    go_wp2_with fail
    obtain ⟨hpe, hps⟩ := stp_new (3 : Int) hst1
    have HP1 := Lib.hid (laid_faults (heap_alloc_new w4 (.cells #[.int .i64 (3 : Int), .int .i64 3, .int .i64 0] 58)))
    have HPL := Lib.hid ((HD4.out.alloc (.cells #[.int .i64 (3 : Int), .int .i64 3, .int .i64 0] 58)).plan1 (j := 0) Dk.Small.new (by omega) _ (by simp) _ HP1.out.2 HP1.out.1)
    obtain ⟨S0, hS0⟩ : ∃ S0, Dk.new.planS [((3 : Int), 3, 0)] = S0 := ⟨_, rfl⟩
    have HI0 := Lib.hid (show S0.Inv from by rw [← hS0]; exact Dk.Inv.new.set _)
    have HM0 := Lib.hid (show S0.Small 0 from by rw [← hS0]; exact Dk.Small.new.set _)
    have HE0 := Lib.hid hpe
    rw [hS0] at hps
    have HST := Lib.hid hps
    rw [hpe, hS0] at HPL
    have HS0 := Lib.hid hS0
    clear hpe hps hS0
    ((refine Calls.mono HPL.out ?_); rintro e w5 ⟨rfl, hd5⟩)
    have HD5 := Lib.hid hd5
    clear hd5
    have HP2 := Lib.hid (laid_faults (heap_alloc_new w5 (.cells #[.int .i64 (3 : Int), .int .i64 3, .int .i64 0] 58)))
    have HSL := Lib.hid ((HD5.out.alloc (.cells #[.int .i64 (3 : Int), .int .i64 3, .int .i64 0] 58)).rset (j := 0) Dk.Small.new (by omega) _ _ HP2.out.2 (by simp))
    rw [HE0.out, HS0.out] at HSL
    go_wp2_with fail
    ((refine Calls.mono HSL.out ?_); rintro e w6 ⟨rfl, hd6⟩)
    have HD6 := Lib.hid hd6
    clear hd6
    go_wp2_with fail
    go_loopw [7] (fun i wr => ∃ (q : Nat) (S : Dk), q ≤ ds.length ∧ i = .int .i64 q ∧ Hid (Duo (fun _ => False) w wr b c S S) ∧ Hid S.Inv ∧ Hid (S.Small q) ∧ Hid (Stp S (3 : Int))) (fun i _ => ds.length - (intOf i).toNat)
    case atStart => exact ⟨0, S0, Nat.zero_le _, rfl, HD6.out, HI0.out, HM0.out, HST.out⟩
    case round =>
      obtain ⟨q, S, hq, rfl, hd, hI, hS, hT⟩ := hrel
      by_cases hql : q < ds.length
      · obtain ⟨a, ha⟩ : ∃ a, ds[q]? = some a := ⟨_, List.getElem?_eq_getElem hql⟩
        have haO := HDS.out a (List.mem_of_getElem? ha)
        obtain ⟨g, off, fv, bv, rfl, -, hg, k0, k1, k2, k3, k4, k5, k6, hqr, hir⟩ := HV.out.at_ ha
        have hcell : ∀ o, wr.cell? ⟨g, o, none⟩ = w.cell? ⟨g, o, none⟩ := fun o => World.cell?_of_block (hd.out.2.block g hg (fun h => h))
        have c0 := (hcell _).trans k0
        have c1 := (hcell _).trans k1
        have c2 := (hcell _).trans k2
        have c3 := (hcell _).trans k3
        have c4 := (hcell _).trans k4
        have c5 := (hcell _).trans k5
        have c6 := (hcell _).trans k6
        have hqI : (q : Int) < (ds.length : Int) := by omega
        have hq0 : (0 : Int) ≤ (q : Int) := by omega
        by_cases hk : 7 ≤ a.kind
        · clear ha hcell k0 k1 k2 k3 k4 k5 k6 hqr hir
          go_wp2
          go_roundw
          case rel => exact ⟨q + 1, S, by omega, by go_num, hd.out, hI.out, hS.out.mono (by omega), hT.out⟩
          case measure => simp [intOf]; omega
        · have HDo := Lib.hid (deed_any hd.out hI.out hS.out (by omega) a haO (.agg #[.int .i64 a.kind, .string (str a.A), .string (str a.B), .int .i64 a.n, fv, .int .i64 a.k, bv]) ⟨fv, bv, rfl, hqr.kept hd.out.2 (fun _ _ h => h), hir.kept hd.out.2 (fun _ _ h => h)⟩ (K := fun g => g < w.heap.size) (fun k hk hh => hh.elim id (fun h => by omega)))
          have HT2 := Lib.hid (hT.out.deed (a := a) (by omega))
          obtain ⟨T, hTe⟩ : ∃ T, doS S a = T := ⟨_, rfl⟩
          have HTI := Lib.hid (show T.Inv from by rw [← hTe]; exact doS_inv hI.out a)
          have HTS := Lib.hid (show T.Small (q + 1) from by rw [← hTe]; exact doS_small hS.out haO)
          rw [hTe] at HDo HT2
          have hle : ¬ (3 : Int) < (T.steps : Int) := by have := HT2.out.le; omega
          clear ha hcell k0 k1 k2 k3 k4 k5 k6 hqr hir hTe
          cases hdn : T.down with
          | true =>
            have hse : ((T.steps : Int) == (3 : Int)) = true := by rw [beq_iff_eq]; exact HT2.out.dn.1 hdn
            go_wp2_with fail
            ((refine Calls.mono HDo.out ?_); rintro e w7 ⟨rfl, hd7⟩)
            have HD7 := Lib.hid hd7
            have HDn := Lib.hid hd7.down
            have HSt := Lib.hid hd7.steps
            rw [hdn] at HDn
            clear hd7
            go_wp2_with fail
            ((refine Calls.mono HDn.out ?_); rintro e w8 ⟨rfl, rfl⟩)
            go_wp2_with fail
            ((refine Calls.mono HSt.out ?_); rintro e w8 ⟨rfl, rfl⟩)
            go_wp2_with fail
            ((refine Calls.mono HSt.out ?_); rintro e w8 ⟨rfl, rfl⟩)
            go_wp2
            go_roundw
            case rel => exact ⟨q + 1, T, by omega, by go_num, HD7.out, HTI.out, HTS.out, HT2.out⟩
            case measure => simp [intOf]; omega
          | false =>
            have hse : ((T.steps : Int) == (3 : Int)) = false := by rw [beq_eq_false_iff_ne]; exact fun h => by have := HT2.out.dn.2 h; rw [hdn] at this; cases this
            go_wp2_with fail
            ((refine Calls.mono HDo.out ?_); rintro e w7 ⟨rfl, hd7⟩)
            have HD7 := Lib.hid hd7
            have HDn := Lib.hid hd7.down
            have HSt := Lib.hid hd7.steps
            rw [hdn] at HDn
            clear hd7
            go_wp2_with fail
            ((refine Calls.mono HDn.out ?_); rintro e w8 ⟨rfl, rfl⟩)
            go_wp2_with fail
            ((refine Calls.mono HSt.out ?_); rintro e w8 ⟨rfl, rfl⟩)
            go_wp2_with fail
            ((refine Calls.mono HSt.out ?_); rintro e w8 ⟨rfl, rfl⟩)
            go_wp2
            go_roundw
            case rel => exact ⟨q + 1, T, by omega, by go_num, HD7.out, HTI.out, HTS.out, HT2.out⟩
            case measure => simp [intOf]; omega
      · obtain rfl : q = ds.length := by omega
        have HDn := Lib.hid hd.out.down
        cases hdn : S.down with
        | true =>
          have hse : (S.steps : Int) = (3 : Int) := hT.out.dn.1 hdn
          obtain ⟨ea, et, -⟩ := down_all hdn [97]
          obtain ⟨-, -, ec, es, en, et2⟩ := down_all hdn [110, 101, 119]
          have HRd := Lib.hid (hd.out.1.read hI.out [97] (by simp))
          unfold ReadEnd at HRd
          rw [et, ea] at HRd
          have HNm := Lib.hid (hd.out.1.names hI.out hS.out (by omega))
          rw [if_pos hdn] at HNm
          have HLs := Lib.hid (fun W (hb : Below wr.heap.size wr W) => (hd.out.1.below hb).lasting hI.out hS.out (by omega))
          rw [if_pos hdn] at HLs
          have HCr := Lib.hid (fun W (hb : Below wr.heap.size wr W) => (hd.out.below hb).create hI.out hS.out (by omega) [110, 101, 119] (by simp))
          rw [ec, es] at HCr
          have HSy := Lib.hid (fun W (h : Duo (fun _ => False) w W b c S S) => h.syncNames hI.out hS.out (by omega))
          rw [en, et2] at HSy
          rw [hdn] at HDn
          clear ea et ec es en et2
          go_wp2_with fail
          ((refine Calls.mono HDn.out ?_); rintro e wa ⟨rfl, rfl⟩)
          go_wp2_with fail
          ((refine Calls.mono HRd.out ?_); rintro e wa ⟨rfl, rfl⟩)
          go_wp2_with fail
          ((refine Calls.mono HNm.out ?_); rintro e wa ⟨va', rfl, za, ba⟩)
          obtain ⟨aa, ca, rfl, -⟩ := (show TRow wa va' [] from za.srow).open
          have HBa := Lib.hid ba
          clear za ba
          go_wp2_with fail
          ((refine Calls.mono (HLs.out _ HBa.out) ?_); rintro e wb ⟨vb', rfl, zb, bb⟩)
          obtain ⟨ab, cb, rfl, -⟩ := (show TRow wb vb' [] from zb.srow).open
          have HBb := Lib.hid (HBa.out.trans (bb.mono HBa.out.size))
          clear zb bb
          go_wp2_with fail
          ((refine Calls.mono (HCr.out _ HBb.out) ?_); rintro e wc ⟨rfl, hdc⟩)
          have HDc := Lib.hid hdc
          clear hdc
          go_wp2_with fail
          ((refine Calls.mono (HSy.out _ HDc.out) ?_); rintro e wx ⟨rfl, hdd⟩)
          have hdx := Lib.hid hdd
          have HSt := Lib.hid hdd.steps
          rw [hse] at HSt
          clear hdd
          go_wp2_with fail
          ((refine Calls.mono HSt.out ?_); rintro e wx0 ⟨rfl, rfl⟩)
          have HC1 := Lib.hid (hdx.out.crash1 hI.out hS.out (by omega) 1099511627776 _ [1099511627776] ((Below.refl _ _).alloc (Nat.le_refl _) (.cells #[.int .i64 1099511627776] 3)) (laid_int (heap_alloc_new wx _) (Nat.le_refl _)) (by simp))
          go_wp2_with fail
          ((refine Calls.mono HC1.out ?_); rintro e wy ⟨rfl, hdy⟩)
          have HDy := Lib.hid hdy
          clear hdy
          have HC2 := Lib.hid (HDy.out.rcrash1 hI.out hS.out (by omega) 1099511627776 _ [1099511627776] ((Below.refl _ _).alloc (Nat.le_refl _) (.cells #[.int .i64 1099511627776] 3)) (laid_int (heap_alloc_new wy _) (Nat.le_refl _)) (by simp))
          go_wp2_with fail
          ((refine Calls.mono HC2.out ?_); rintro e wz ⟨rfl, hdz⟩)
          have HDz := Lib.hid hdz
          have HDn2 := Lib.hid hdz.down
          rw [show (S.crashS 1099511627776 [1099511627776]).down = false from rfl] at HDn2
          clear hdz
          go_wp2_with fail
          ((refine Calls.mono HDn2.out ?_); rintro e wq ⟨rfl, rfl⟩)
          go_wp2_with fail
          ((refine Calls.mono (like_any HDz.out (hI.out.crash _ _) (hS.out.crash _ _) (by omega) [] (by simp) (by simp) _ (show SRow _ _ _ from ⟨none, 0, rfl, .inl rfl⟩)) ?_); rintro e wu ⟨rfl, hdu⟩)
          have HDu := Lib.hid hdu
          clear hdu
          go_wp2
          go_ret
          exact ⟨rfl, HDu.out.2.below (fun _ h => h.elim) (Nat.le_refl _)⟩
        | false =>
          rw [hdn] at HDn
          go_wp2_with fail
          ((refine Calls.mono HDn.out ?_); rintro e wa ⟨rfl, hwx⟩)
          obtain ⟨wx, hwx2⟩ : ∃ wx, wx = wa := ⟨_, rfl⟩
          rw [← hwx2]
          have hdx := Lib.hid (show Duo (fun _ => False) w wx b c S S from by rw [hwx2, ← hwx]; exact hd.out)
          clear hwx hwx2
          have HC1 := Lib.hid (hdx.out.crash1 hI.out hS.out (by omega) 1099511627776 _ [1099511627776] ((Below.refl _ _).alloc (Nat.le_refl _) (.cells #[.int .i64 1099511627776] 3)) (laid_int (heap_alloc_new wx _) (Nat.le_refl _)) (by simp))
          go_wp2_with fail
          ((refine Calls.mono HC1.out ?_); rintro e wy ⟨rfl, hdy⟩)
          have HDy := Lib.hid hdy
          clear hdy
          have HC2 := Lib.hid (HDy.out.rcrash1 hI.out hS.out (by omega) 1099511627776 _ [1099511627776] ((Below.refl _ _).alloc (Nat.le_refl _) (.cells #[.int .i64 1099511627776] 3)) (laid_int (heap_alloc_new wy _) (Nat.le_refl _)) (by simp))
          go_wp2_with fail
          ((refine Calls.mono HC2.out ?_); rintro e wz ⟨rfl, hdz⟩)
          have HDz := Lib.hid hdz
          have HDn2 := Lib.hid hdz.down
          rw [show (S.crashS 1099511627776 [1099511627776]).down = false from rfl] at HDn2
          clear hdz
          go_wp2_with fail
          ((refine Calls.mono HDn2.out ?_); rintro e wq ⟨rfl, rfl⟩)
          go_wp2_with fail
          ((refine Calls.mono (like_any HDz.out (hI.out.crash _ _) (hS.out.crash _ _) (by omega) [] (by simp) (by simp) _ (show SRow _ _ _ from ⟨none, 0, rfl, .inl rfl⟩)) ?_); rintro e wu ⟨rfl, hdu⟩)
          have HDu := Lib.hid hdu
          clear hdu
          go_wp2
          go_ret
          exact ⟨rfl, HDu.out.2.below (fun _ h => h.elim) (Nat.le_refl _)⟩
  have hst1 : (1 : Int) ≤ step := by omega
  go_enter Try.func6, Try.ntmps6
  go_wp2_with fail
  ((refine Calls.mono (new_any w) ?_); rintro e w2 ⟨b, F, rfl, d2, hF2, b2⟩)
  have HD3 := Lib.hid (duo_new d2 hF2 b2)
  clear d2 hF2 b2
  go_wp2_with fail
  have hg3 : w2.alloc rNew = w2.alloc (.cells #[.slice none 0 0, .slice none 0 0, .slice none 0 0, .slice none 0 0, .slice none 0 0, .int .i64 0, .bool false] 52) := rfl
  rw [← hg3]
  obtain ⟨c, hc⟩ : ∃ c, c = w2.heap.size := ⟨_, rfl⟩
  rw [← hc] at HD3 ⊢
  obtain ⟨w3, hw3⟩ : ∃ w3, w3 = w2.alloc rNew := ⟨_, rfl⟩
  rw [← hw3] at HD3 ⊢
  clear hg3 hw3 hc
  ((refine Calls.mono (awake_any w3) ?_); rintro e w4 ⟨rfl, b4⟩)
  have HD4 := Lib.hid (HD3.out.below b4)
  clear b4
  go_wp2_with fail
  obtain ⟨hpe, hps⟩ := stp_new step hst1
  have HP1 := Lib.hid (laid_faults (heap_alloc_new w4 (.cells #[.int .i64 step, .int .i64 3, .int .i64 0] 58)))
  have HPL := Lib.hid ((HD4.out.alloc (.cells #[.int .i64 step, .int .i64 3, .int .i64 0] 58)).plan1 (j := 0) Dk.Small.new (by omega) _ (by simp) _ HP1.out.2 HP1.out.1)
  obtain ⟨S0, hS0⟩ : ∃ S0, Dk.new.planS [(step, 3, 0)] = S0 := ⟨_, rfl⟩
  have HI0 := Lib.hid (show S0.Inv from by rw [← hS0]; exact Dk.Inv.new.set _)
  have HM0 := Lib.hid (show S0.Small 0 from by rw [← hS0]; exact Dk.Small.new.set _)
  have HE0 := Lib.hid hpe
  rw [hS0] at hps
  have HST := Lib.hid hps
  rw [hpe, hS0] at HPL
  have HS0 := Lib.hid hS0
  clear hpe hps hS0
  ((refine Calls.mono HPL.out ?_); rintro e w5 ⟨rfl, hd5⟩)
  have HD5 := Lib.hid hd5
  clear hd5
  have HP2 := Lib.hid (laid_faults (heap_alloc_new w5 (.cells #[.int .i64 step, .int .i64 3, .int .i64 0] 58)))
  have HSL := Lib.hid ((HD5.out.alloc (.cells #[.int .i64 step, .int .i64 3, .int .i64 0] 58)).rset (j := 0) Dk.Small.new (by omega) _ _ HP2.out.2 (by simp))
  rw [HE0.out, HS0.out] at HSL
  go_wp2_with fail
  ((refine Calls.mono HSL.out ?_); rintro e w6 ⟨rfl, hd6⟩)
  have HD6 := Lib.hid hd6
  clear hd6
  go_wp2_with fail
  go_loopw [7] (fun i wr => ∃ (q : Nat) (S : Dk), q ≤ ds.length ∧ i = .int .i64 q ∧ Hid (Duo (fun _ => False) w wr b c S S) ∧ Hid S.Inv ∧ Hid (S.Small q) ∧ Hid (Stp S step)) (fun i _ => ds.length - (intOf i).toNat)
  case atStart => exact ⟨0, S0, Nat.zero_le _, rfl, HD6.out, HI0.out, HM0.out, HST.out⟩
  case round =>
    obtain ⟨q, S, hq, rfl, hd, hI, hS, hT⟩ := hrel
    by_cases hql : q < ds.length
    · obtain ⟨a, ha⟩ : ∃ a, ds[q]? = some a := ⟨_, List.getElem?_eq_getElem hql⟩
      have haO := HDS.out a (List.mem_of_getElem? ha)
      obtain ⟨g, off, fv, bv, rfl, -, hg, k0, k1, k2, k3, k4, k5, k6, hqr, hir⟩ := HV.out.at_ ha
      have hcell : ∀ o, wr.cell? ⟨g, o, none⟩ = w.cell? ⟨g, o, none⟩ := fun o => World.cell?_of_block (hd.out.2.block g hg (fun h => h))
      have c0 := (hcell _).trans k0
      have c1 := (hcell _).trans k1
      have c2 := (hcell _).trans k2
      have c3 := (hcell _).trans k3
      have c4 := (hcell _).trans k4
      have c5 := (hcell _).trans k5
      have c6 := (hcell _).trans k6
      have hqI : (q : Int) < (ds.length : Int) := by omega
      have hq0 : (0 : Int) ≤ (q : Int) := by omega
      by_cases hk : 7 ≤ a.kind
      · clear ha hcell k0 k1 k2 k3 k4 k5 k6 hqr hir
        go_wp2
        go_roundw
        case rel => exact ⟨q + 1, S, by omega, by go_num, hd.out, hI.out, hS.out.mono (by omega), hT.out⟩
        case measure => simp [intOf]; omega
      · have HDo := Lib.hid (deed_any hd.out hI.out hS.out (by omega) a haO (.agg #[.int .i64 a.kind, .string (str a.A), .string (str a.B), .int .i64 a.n, fv, .int .i64 a.k, bv]) ⟨fv, bv, rfl, hqr.kept hd.out.2 (fun _ _ h => h), hir.kept hd.out.2 (fun _ _ h => h)⟩ (K := fun g => g < w.heap.size) (fun k hk hh => hh.elim id (fun h => by omega)))
        have HT2 := Lib.hid (hT.out.deed (a := a) (by omega))
        obtain ⟨T, hTe⟩ : ∃ T, doS S a = T := ⟨_, rfl⟩
        have HTI := Lib.hid (show T.Inv from by rw [← hTe]; exact doS_inv hI.out a)
        have HTS := Lib.hid (show T.Small (q + 1) from by rw [← hTe]; exact doS_small hS.out haO)
        rw [hTe] at HDo HT2
        have hle : ¬ step < (T.steps : Int) := by have := HT2.out.le; omega
        clear ha hcell k0 k1 k2 k3 k4 k5 k6 hqr hir hTe
        cases hdn : T.down with
        | true =>
          have hse : ((T.steps : Int) == step) = true := by rw [beq_iff_eq]; exact HT2.out.dn.1 hdn
          go_wp2_with fail
          ((refine Calls.mono HDo.out ?_); rintro e w7 ⟨rfl, hd7⟩)
          have HD7 := Lib.hid hd7
          have HDn := Lib.hid hd7.down
          have HSt := Lib.hid hd7.steps
          rw [hdn] at HDn
          clear hd7
          go_wp2_with fail
          ((refine Calls.mono HDn.out ?_); rintro e w8 ⟨rfl, rfl⟩)
          go_wp2_with fail
          ((refine Calls.mono HSt.out ?_); rintro e w8 ⟨rfl, rfl⟩)
          go_wp2_with fail
          ((refine Calls.mono HSt.out ?_); rintro e w8 ⟨rfl, rfl⟩)
          go_wp2
          go_roundw
          case rel => exact ⟨q + 1, T, by omega, by go_num, HD7.out, HTI.out, HTS.out, HT2.out⟩
          case measure => simp [intOf]; omega
        | false =>
          have hse : ((T.steps : Int) == step) = false := by rw [beq_eq_false_iff_ne]; exact fun h => by have := HT2.out.dn.2 h; rw [hdn] at this; cases this
          go_wp2_with fail
          ((refine Calls.mono HDo.out ?_); rintro e w7 ⟨rfl, hd7⟩)
          have HD7 := Lib.hid hd7
          have HDn := Lib.hid hd7.down
          have HSt := Lib.hid hd7.steps
          rw [hdn] at HDn
          clear hd7
          go_wp2_with fail
          ((refine Calls.mono HDn.out ?_); rintro e w8 ⟨rfl, rfl⟩)
          go_wp2_with fail
          ((refine Calls.mono HSt.out ?_); rintro e w8 ⟨rfl, rfl⟩)
          go_wp2_with fail
          ((refine Calls.mono HSt.out ?_); rintro e w8 ⟨rfl, rfl⟩)
          go_wp2
          go_roundw
          case rel => exact ⟨q + 1, T, by omega, by go_num, HD7.out, HTI.out, HTS.out, HT2.out⟩
          case measure => simp [intOf]; omega
    · obtain rfl : q = ds.length := by omega
      have HDn := Lib.hid hd.out.down
      cases hdn : S.down with
      | true =>
        have hse : (S.steps : Int) = step := hT.out.dn.1 hdn
        obtain ⟨ea, et, -⟩ := down_all hdn [97]
        obtain ⟨-, -, ec, es, en, et2⟩ := down_all hdn [110, 101, 119]
        have HRd := Lib.hid (hd.out.1.read hI.out [97] (by simp))
        unfold ReadEnd at HRd
        rw [et, ea] at HRd
        have HNm := Lib.hid (hd.out.1.names hI.out hS.out (by omega))
        rw [if_pos hdn] at HNm
        have HLs := Lib.hid (fun W (hb : Below wr.heap.size wr W) => (hd.out.1.below hb).lasting hI.out hS.out (by omega))
        rw [if_pos hdn] at HLs
        have HCr := Lib.hid (fun W (hb : Below wr.heap.size wr W) => (hd.out.below hb).create hI.out hS.out (by omega) [110, 101, 119] (by simp))
        rw [ec, es] at HCr
        have HSy := Lib.hid (fun W (h : Duo (fun _ => False) w W b c S S) => h.syncNames hI.out hS.out (by omega))
        rw [en, et2] at HSy
        rw [hdn] at HDn
        clear ea et ec es en et2
        go_wp2_with fail
        ((refine Calls.mono HDn.out ?_); rintro e wa ⟨rfl, rfl⟩)
        go_wp2_with fail
        ((refine Calls.mono HRd.out ?_); rintro e wa ⟨rfl, rfl⟩)
        go_wp2_with fail
        ((refine Calls.mono HNm.out ?_); rintro e wa ⟨va', rfl, za, ba⟩)
        obtain ⟨aa, ca, rfl, -⟩ := (show TRow wa va' [] from za.srow).open
        have HBa := Lib.hid ba
        clear za ba
        go_wp2_with fail
        ((refine Calls.mono (HLs.out _ HBa.out) ?_); rintro e wb ⟨vb', rfl, zb, bb⟩)
        obtain ⟨ab, cb, rfl, -⟩ := (show TRow wb vb' [] from zb.srow).open
        have HBb := Lib.hid (HBa.out.trans (bb.mono HBa.out.size))
        clear zb bb
        go_wp2_with fail
        ((refine Calls.mono (HCr.out _ HBb.out) ?_); rintro e wc ⟨rfl, hdc⟩)
        have HDc := Lib.hid hdc
        clear hdc
        go_wp2_with fail
        ((refine Calls.mono (HSy.out _ HDc.out) ?_); rintro e wx ⟨rfl, hdd⟩)
        have hdx := Lib.hid hdd
        have HSt := Lib.hid hdd.steps
        rw [hse] at HSt
        clear hdd
        go_wp2_with fail
        ((refine Calls.mono HSt.out ?_); rintro e wx0 ⟨rfl, rfl⟩)
        have HC1 := Lib.hid (hdx.out.crash1 hI.out hS.out (by omega) 1099511627776 _ [1099511627776] ((Below.refl _ _).alloc (Nat.le_refl _) (.cells #[.int .i64 1099511627776] 3)) (laid_int (heap_alloc_new wx _) (Nat.le_refl _)) (by simp))
        go_wp2_with fail
        ((refine Calls.mono HC1.out ?_); rintro e wy ⟨rfl, hdy⟩)
        have HDy := Lib.hid hdy
        clear hdy
        have HC2 := Lib.hid (HDy.out.rcrash1 hI.out hS.out (by omega) 1099511627776 _ [1099511627776] ((Below.refl _ _).alloc (Nat.le_refl _) (.cells #[.int .i64 1099511627776] 3)) (laid_int (heap_alloc_new wy _) (Nat.le_refl _)) (by simp))
        go_wp2_with fail
        ((refine Calls.mono HC2.out ?_); rintro e wz ⟨rfl, hdz⟩)
        have HDz := Lib.hid hdz
        have HDn2 := Lib.hid hdz.down
        rw [show (S.crashS 1099511627776 [1099511627776]).down = false from rfl] at HDn2
        clear hdz
        go_wp2_with fail
        ((refine Calls.mono HDn2.out ?_); rintro e wq ⟨rfl, rfl⟩)
        go_wp2_with fail
        ((refine Calls.mono (like_any HDz.out (hI.out.crash _ _) (hS.out.crash _ _) (by omega) [] (by simp) (by simp) _ (show SRow _ _ _ from ⟨none, 0, rfl, .inl rfl⟩)) ?_); rintro e wu ⟨rfl, hdu⟩)
        have HDu := Lib.hid hdu
        clear hdu
        go_wp2
        go_ret
        exact ⟨rfl, HDu.out.2.below (fun _ h => h.elim) (Nat.le_refl _)⟩
      | false =>
        rw [hdn] at HDn
        go_wp2_with fail
        ((refine Calls.mono HDn.out ?_); rintro e wa ⟨rfl, hwx⟩)
        obtain ⟨wx, hwx2⟩ : ∃ wx, wx = wa := ⟨_, rfl⟩
        rw [← hwx2]
        have hdx := Lib.hid (show Duo (fun _ => False) w wx b c S S from by rw [hwx2, ← hwx]; exact hd.out)
        clear hwx hwx2
        have HC1 := Lib.hid (hdx.out.crash1 hI.out hS.out (by omega) 1099511627776 _ [1099511627776] ((Below.refl _ _).alloc (Nat.le_refl _) (.cells #[.int .i64 1099511627776] 3)) (laid_int (heap_alloc_new wx _) (Nat.le_refl _)) (by simp))
        go_wp2_with fail
        ((refine Calls.mono HC1.out ?_); rintro e wy ⟨rfl, hdy⟩)
        have HDy := Lib.hid hdy
        clear hdy
        have HC2 := Lib.hid (HDy.out.rcrash1 hI.out hS.out (by omega) 1099511627776 _ [1099511627776] ((Below.refl _ _).alloc (Nat.le_refl _) (.cells #[.int .i64 1099511627776] 3)) (laid_int (heap_alloc_new wy _) (Nat.le_refl _)) (by simp))
        go_wp2_with fail
        ((refine Calls.mono HC2.out ?_); rintro e wz ⟨rfl, hdz⟩)
        have HDz := Lib.hid hdz
        have HDn2 := Lib.hid hdz.down
        rw [show (S.crashS 1099511627776 [1099511627776]).down = false from rfl] at HDn2
        clear hdz
        go_wp2_with fail
        ((refine Calls.mono HDn2.out ?_); rintro e wq ⟨rfl, rfl⟩)
        go_wp2_with fail
        ((refine Calls.mono (like_any HDz.out (hI.out.crash _ _) (hS.out.crash _ _) (by omega) [] (by simp) (by simp) _ (show SRow _ _ _ from ⟨none, 0, rfl, .inl rfl⟩)) ?_); rintro e wu ⟨rfl, hdu⟩)
        have HDu := Lib.hid hdu
        clear hdu
        go_wp2
        go_ret
        exact ⟨rfl, HDu.out.2.below (fun _ h => h.elim) (Nat.le_refl _)⟩
end Go.Proofs.Ytbjlffhnkcbnmaa
