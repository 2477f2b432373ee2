/- Does the program's disk tell what the document's does? -/
import Derived.Test.YtbjlffhnkcbnmaaDo
import Derived.Test.YtbjlffhnkcbnmaaDTexts
import Derived.Test.YtbjlffhnkcbnmaaRef6
namespace Go.Proofs.Ytbjlffhnkcbnmaa
open Go.ChangeShapes Go.WideShapes Go.ChangeAt Go.RowKit Go.Maps Pl
set_option linter.unusedVariables false
set_option linter.unusedSimpArgs false

/-- A row of texts of the call's own. -/
def OTx (w : World) (B : Nat) (v : Value) (ts : List Tx) : Prop := w.ownsRow B 9 1 v ts.length (ts.map strV)
theorem txRow_keys (l : Nm) : txRow l = (keys l).map strV := by simp [txRow, keys, strV]
theorem OTx.trow {w : World} {B : Nat} {v : Value} {ts : List Tx} (h : OTx w B v ts) : TRow w v ts := by
  have h0 := h
  rcases h.2 with ⟨h1, h2⟩ | ⟨g, cap, cur, rfl, h3, h4, _⟩
  · exact ⟨none, 0, by rw [h1, textsB_length, h2], .inl (by rw [List.eq_nil_of_length_eq_zero h2]; rfl)⟩
  · refine ⟨_, cap, by rw [textsB_length], .inr ⟨g, 0, rfl, (Array.getElem?_eq_some_iff.1 h4).1, fun j x hx => ?_⟩⟩
    have hj := (List.getElem?_eq_some_iff.1 hx).1
    rw [textsB_length] at hj
    rw [Nat.zero_add, World.ownsRow.cellAt h0 j (by omega)]
    simp [textsB] at hx
    obtain ⟨a, ha, rfl⟩ := hx
    simp [ha, strV]
theorem RTextsEnd.own {L : Nm} {w w' : World} {e : Ending} (h : RTextsEnd L w e w') : ∃ v, e = .returned v ∧ OTx w' w.heap.size v (keys L) ∧ Below w.heap.size w w' := by
  obtain ⟨v, he, ho, hb⟩ := h
  refine ⟨v, he, ?_, hb⟩
  have : (keys L).length = L.length := List.length_map _
  unfold OTx
  rw [this, ← txRow_keys]; exact ho
section
variable {P : Program} {o : Oper} {a : Act} {Q : Exit → Act → World → Prop} {K : Act → World → Prop}
/-- Texts behind a row of the call's own. -/
theorem wpList_append_texts {w0 w : World} {ops : Array Oper} {rest : List Oper} (hgd : o.guard = none) (s x : Operand) (ho : o.op = .call { callee := .builtin .append, args := #[s, x], argTypes := #[33, 33] })
    (xs ts : List Tx) (v u : Value) (hs : a.eval s = v) (hx : a.eval x = u) (hM : OTx w w0.heap.size v xs) (hu : TRow w u ts) (hb : Below w0.heap.size w0 w) (hn : xs.length + ts.length ≤ 8388608)
    (h : ∀ v' w', OTx w' w0.heap.size v' (xs ++ ts) → Below w0.heap.size w0 w' → wpList Try.prog ops Q rest (a.put o.dst v') w') : wpList Try.prog ops Q (o :: rest) a w := by
  refine wpList_plain hgd fun K hK' => ?_
  obtain ⟨i, hi, hz, hsz, hby⟩ := info_parts infoS
  obtain ⟨ao, cp, rfl, hh⟩ := hu.open
  have out : ∀ v' w', w'.ownsRow w0.heap.size 9 1 v' (xs.length + ts.length) (xs.map strV ++ ts.map strV) → w.grownBy w' v.ownBlock → K (a.put o.dst v') w' := fun v' w' hown hg =>
    hK' _ _ (h v' w' (by unfold OTx; rw [List.length_append, List.map_append]; exact hown) (hb.grown hg hb.size fun k hk => (World.ownsRow.lt hM k hk).1))
  have some_case : ∀ ad : Addr, ao = some ad → (∀ j u, (ts.map strV)[j]? = some u → w.cell? (ad.add j) = some u) → o.wp Try.prog a w K Q := fun ad e hc => by
    subst e
    exact wp_append_own w s x _ ho w0.heap.size 9 i _ 1 16 Try.underlying33 hi hz hsz hby rfl (by omega) v xs.length (xs.map strV) hs hM ad ts.length cp (ts.map strV) hx (by simp) hc (by
      intro u hu
      obtain ⟨t, _, rfl⟩ := List.mem_map.1 hu
      rfl) (by unfold maxLen; omega) (by omega) hb.size fun v' w' h2 h3 _ => out v' w' h2 h3
  rcases hh with rfl | ⟨g, off, rfl, hg, hc⟩
  · rcases ao with _ | ad
    · have hrun := run_append_nilf (P := Try.prog) (w := w) w0.heap.size 33 o.type 9 i 1 cp Try.underlying33 hi v xs.length (xs.map strV) hM
      have hk := hK' _ _ (h v w (by rw [List.append_nil]; exact hM) hb)
      unfold Oper.wp
      simp [execOp, ho, resolve, invoke, builtin, hs, hx, hrun, Result.andThen]
      exact hk
    · exact some_case ad rfl (by simp)
  · refine some_case _ rfl fun j u hu => ?_
    obtain ⟨t, ht, rfl⟩ : ∃ t, ts[j]? = some t ∧ strV t = u := by simpa using hu
    rw [add_plain]
    exact hc j t ht
end
namespace Two
variable {P : Nat → Prop} {w w' : World} {b c j : Nat} {S T : Dk}
theorem read (h : Two P w b c S T) (hI : S.Inv) (n : Tx) (hn : n.length ≤ 1048576) : Calls Try.prog 14 #[.pointer (some ⟨b, 0, none⟩), .string (str n)] w (ReadEnd S n w) := by
  obtain ⟨F, G, d, r, _, _⟩ := h; exact read_any d hI n hn
theorem synced (h : Two P w b c S T) (hI : S.Inv) (n : Tx) (hn : n.length ≤ 1048576) : Calls Try.prog 15 #[.pointer (some ⟨b, 0, none⟩), .string (str n)] w (SyncedEnd S n w) := by
  obtain ⟨F, G, d, r, _, _⟩ := h; exact synced_any d hI n hn
theorem names (h : Two P w b c S T) (hI : S.Inv) (hS : S.Small j) (hj : j ≤ 4194304) : Calls Try.prog 13 #[.pointer (some ⟨b, 0, none⟩)] w (ToldEnd (if S.down = true then [] else S.names) w) := by
  obtain ⟨F, G, d, r, _, _⟩ := h; exact names_any d hI hS hj
theorem lasting (h : Two P w b c S T) (hI : S.Inv) (hS : S.Small j) (hj : j ≤ 4194304) : Calls Try.prog 19 #[.pointer (some ⟨b, 0, none⟩)] w (ToldEnd (if S.down = true then [] else S.last) w) := by
  obtain ⟨F, G, d, r, _, _⟩ := h; exact lasting_any d hI hS hj
theorem steps (h : Two P w b c S T) : Calls Try.prog 25 #[.pointer (some ⟨b, 0, none⟩)] w fun e w' => e = .returned (.int .i64 S.steps) ∧ w = w' := by
  obtain ⟨F, G, d, r, _, _⟩ := h; exact steps_any d
theorem down (h : Two P w b c S T) : Calls Try.prog 24 #[.pointer (some ⟨b, 0, none⟩)] w fun e w' => e = .returned (.bool S.down) ∧ w = w' := by
  obtain ⟨F, G, d, r, _, _⟩ := h; exact down_any d
theorem rread (h : Two P w b c S T) (hI : T.Inv) (hS : T.Small j) (hj : j ≤ 4194304) (n : Tx) :
    Calls Try.prog 46 #[.pointer (some ⟨c, 0, none⟩), .string (str n)] w fun e w' => e = .returned (.tuple #[.string (str (T.readT n)), .int .i64 (T.askE n)]) ∧ w = w' := by
  obtain ⟨F, G, d, r, _, _⟩ := h; exact refRead_any r hI (by have := hI.good.few; have := hS.files; omega) (by have := hS.files; omega) n
theorem rsynced (h : Two P w b c S T) (hI : T.Inv) (hS : T.Small j) (hj : j ≤ 4194304) (n : Tx) :
    Calls Try.prog 47 #[.pointer (some ⟨c, 0, none⟩), .string (str n)] w fun e w' => e = .returned (.tuple #[.int .i64 (T.readN n), .int .i64 (T.askE n)]) ∧ w = w' := by
  obtain ⟨F, G, d, r, _, _⟩ := h; exact refSynced_any r hI (by have := hI.good.few; have := hS.files; omega) (by have := hS.files; omega) n
theorem rtexts (h : Two P w b c S T) (hI : T.Inv) (hS : T.Small j) (hj : j ≤ 4194304) (la : Bool) :
    Calls Try.prog 45 #[.pointer (some ⟨c, 0, none⟩), .bool la] w (RTextsEnd (if T.down = true then [] else if la = true then T.last else T.names) w) := by
  obtain ⟨F, G, d, r, _, _⟩ := h; exact refTexts_any r (by have := hI.good.few; have := hS.files; omega) (by have := hI.last.few; have := hS.files; omega) la
theorem rcells (h : Two P w b c S T) : w.cell? ⟨c, 5, none⟩ = some (.int .i64 T.steps) ∧ w.cell? ⟨c, 6, none⟩ = some (.bool T.down) ∧ c < w.heap.size := by
  obtain ⟨F, G, d, ⟨fv, nv, lv, ov, pv, r⟩, _, _⟩ := h
  exact ⟨r.cells.2.2.2.2.2.1, r.cells.2.2.2.2.2.2, r.lt c r.own⟩
end Two
theorem texts_same (a : List Tx) (v1 v2 : Value) (hn : a.length ≤ 9223372036854775807) (w : World) (h1 : TRow w v1 a) (h2 : TRow w v2 a) :
    Calls Try.prog 18 #[v1, v2] w fun e w' => e = .returned (.bool true) ∧ ∃ n, w' = w.drewN n :=
  (texts_any a a v1 v2 hn w h1 h2).mono fun e w' h => ⟨by rw [h.1]; simp, h.2⟩
set_option maxRecDepth 100000 in
set_option maxHeartbeats 6400000 in
theorem like_any {H : Nat → Prop} {w1 w : World} {b c j : Nat} {S : Dk} (h : Duo H w1 w b c S S) (hI : S.Inv) (hS : S.Small j) (hj : j ≤ 4194300) (ns : List Tx) (hns : ∀ n ∈ ns, n.length ≤ 1048576) (hnl : ns.length ≤ 16) (v : Value) (hv : TRow w v ns) :
    Calls Try.prog 21 #[.pointer (some ⟨b, 0, none⟩), .pointer (some ⟨c, 0, none⟩), v] w (DuoEnd H w1 b c S S (.bool true)) := by
  obtain ⟨va, vc, rfl, -⟩ := hv.open
  obtain ⟨L, hL⟩ : ∃ L, (if S.down = true then [] else S.names) = L := ⟨_, rfl⟩
  have hLs : Short L := by rw [← hL]; split; exact (fun p hp => by simp at hp); exact hS.nms
  have hLl : L.length ≤ 4194304 := by rw [← hL]; split; simp; (have := hI.good.few; have := hS.files; omega)
  obtain ⟨M, hM⟩ : ∃ M, (if S.down = true then [] else S.last) = M := ⟨_, rfl⟩
  have hMl : M.length ≤ 4194304 := by rw [← hM]; split; simp; (have := hI.last.few; have := hS.files; omega)
  have HD := Lib.hid h
  have HN := Lib.hid (fun W (hb : Below w.heap.size w W) => (show Calls Try.prog 13 #[.pointer (some ⟨b, 0, none⟩)] W (ToldEnd L W) from by rw [← hL]; exact (h.1.below hb).names hI hS (by omega)))
  have HL := Lib.hid (fun W (hb : Below w.heap.size w W) => (show Calls Try.prog 19 #[.pointer (some ⟨b, 0, none⟩)] W (ToldEnd M W) from by rw [← hM]; exact (h.1.below hb).lasting hI hS (by omega)))
  have HT0 := Lib.hid (fun W (hb : Below w.heap.size w W) => (show Calls Try.prog 45 #[.pointer (some ⟨c, 0, none⟩), .bool false] W (RTextsEnd L W) from by have := (h.1.below hb).rtexts hI hS (by omega) false; simp only [Bool.false_eq_true, if_false] at this; rw [hL] at this; exact this))
  have HT1 := Lib.hid (fun W (hb : Below w.heap.size w W) => (show Calls Try.prog 45 #[.pointer (some ⟨c, 0, none⟩), .bool true] W (RTextsEnd M W) from by have := (h.1.below hb).rtexts hI hS (by omega) true; simp only [if_true] at this; rw [hM] at this; exact this))
  have HSt := Lib.hid (fun W (hb : Below w.heap.size w W) => (h.1.below hb).steps)
  have HDn := Lib.hid (fun W (hb : Below w.heap.size w W) => (h.1.below hb).down)
  have HCs := Lib.hid (fun W (hb : Below w.heap.size w W) => And.intro (h.1.below hb).rcells.1 (h.1.below hb).rcells.2.1)
  have HV := Lib.hid hv
  have HLs := Lib.hid hLs
  have HNS := Lib.hid hns
  have HKL := Lib.hid (show (keys L).length = L.length from List.length_map _)
  have HKM := Lib.hid (show (keys M).length = M.length from List.length_map _)
  clear h hv hL hM hLs hns
  go_enter Try.func21, Try.ntmps21
  go_wp2_with fail
  ((refine Calls.mono (HT0.out w (Below.refl _ _)) ?_); intro e w2 he; obtain ⟨v2, rfl, o2, b2⟩ := he.own; clear he)
  have H2 := Lib.hid (And.intro o2 b2)
  clear o2 b2
  obtain ⟨A, hA⟩ : ∃ A, keys L ++ ns = A := ⟨_, rfl⟩
  have HAq := Lib.hid hA
  go_wp2_with (at_builtin; refine wpList_append_texts (w0 := w) rfl (.tmp 18) (.tmp 19) rfl (keys L) ns v2 (.slice va ns.length vc) (by simp [Act.eval]) (by simp [Act.eval]) H2.out.1 (HV.out.kept H2.out.2) H2.out.2 (by rw [HKL.out]; omega) ?_; intro v3 w3 o3 b3; rw [HAq.out] at o3; obtain ⟨a3, c3, rfl, -⟩ := o3.trow.open; have H3 := Lib.hid (And.intro o3.trow b3); clear o3 b3)
  have hAl : A.length ≤ 4194400 := by rw [← hA, List.length_append, HKL.out]; omega
  have HAs := Lib.hid (show ∀ n ∈ A, n.length ≤ 1048576 from by
    rw [← hA]; intro n hn
    rcases List.mem_append.1 hn with hn | hn
    · obtain ⟨p, hp, rfl⟩ := List.mem_map.1 hn
      exact HLs.out p hp
    · exact HNS.out n hn)
  have H3D := Lib.hid (HD.out.below H3.out.2)
  have HC3 := HCs.out w3 H3.out.2
  clear hA
  go_wp2_with fail
  go_loop [8] (fun i => ∃ q : Nat, q ≤ A.length ∧ i = .int .i64 q) (fun i => A.length - (intOf i).toNat)
  case atStart => exact ⟨0, Nat.zero_le _, rfl⟩
  case round =>
    obtain ⟨q, hq, rfl⟩ := hrel
    by_cases hql : q < A.length
    · obtain ⟨x, hx⟩ : ∃ x, A[q]? = some x := ⟨_, List.getElem?_eq_getElem hql⟩
      have hxl := HAs.out x (List.mem_of_getElem? hx)
      obtain ⟨a', c', e3, hh⟩ := H3.out.1.open
      simp only [Value.slice.injEq] at e3
      obtain ⟨rfl, -, rfl⟩ := e3
      rcases hh with h0 | ⟨g, off, rfl, hg, hc⟩
      · rw [h0] at hql; exact absurd hql (Nat.not_lt_zero _)
      have hcx := hc q x hx
      have HR1 := Lib.hid (H3D.out.1.read hI x hxl)
      have HR2 := Lib.hid (H3D.out.1.rread hI hS (by omega) x)
      have HR3 := Lib.hid (H3D.out.1.synced hI x hxl)
      have HR4 := Lib.hid (H3D.out.1.rsynced hI hS (by omega) x)
      obtain ⟨tx, htx⟩ : ∃ tx, S.readT x = tx := ⟨_, rfl⟩
      obtain ⟨ex, hex⟩ : ∃ ex, S.askE x = ex := ⟨_, rfl⟩
      obtain ⟨nx, hnx⟩ : ∃ nx, S.readN x = nx := ⟨_, rfl⟩
      unfold ReadEnd at HR1
      unfold SyncedEnd at HR3
      rw [htx, hex] at HR1 HR2
      rw [hnx, hex] at HR3 HR4
      have hqI : (q : Int) < (A.length : Int) := by omega
      have hq0 : (0 : Int) ≤ (q : Int) := by omega
      clear hc hx htx hex hnx
      go_wp2_with fail
      ((refine Calls.mono HR1.out ?_); rintro e wa ⟨rfl, rfl⟩)
      go_wp2_with fail
      ((refine Calls.mono HR2.out ?_); rintro e wa ⟨rfl, rfl⟩)
      go_wp2_with fail
      ((refine Calls.mono HR3.out ?_); rintro e wa ⟨rfl, rfl⟩)
      go_wp2_with fail
      ((refine Calls.mono HR4.out ?_); rintro e wa ⟨rfl, rfl⟩)
      go_wp2
      go_round
      case rel => exact ⟨q + 1, by omega, by go_num⟩
      case measure => simp [intOf]; omega
    · obtain rfl : q = A.length := by omega
      go_wp2_with fail
      have HB := Lib.hid H3.out.2
      refine wp_region_held_drew (S := (fun W => W.cell? ⟨c, 5, none⟩ = some (.int .i64 S.steps) ∧ W.cell? ⟨c, 6, none⟩ = some (.bool S.down))) (by kernel_rfl) ?_ (fun hHeld => ?_)
      · first | exact HCs.out _ HB.out | exact HCs.out _ HB.out.drew
      refine wpAnyH_take (i := 0) (oi := (Go.Oper.mk (some 81) (Go.Op.move (Go.Operand.tmp 0)) 28 _ #[] none)) (v := ?_) rfl (by kernel_rfl) (by kernel_rfl) (by kernel_rfl) (fun _ _ _ h => h) (Or.inl ⟨by rfl, ?_⟩) hHeld ?_
      rotate_left
      · intro w hSw; (try dsimp only at hSw); go_simp; (try with_reducible rfl)
      simp only [Act.put, List.setIfInBounds_toArray, List.set_cons_zero, List.set_cons_succ]
      refine wpAnyH_take (i := 2) (oi := (Go.Oper.mk (some 83) (Go.Op.move (Go.Operand.tmp 1)) 47 _ #[] none)) (v := ?_) rfl (by kernel_rfl) (by kernel_rfl) (by kernel_rfl) (fun _ _ _ h => h) (Or.inl ⟨by rfl, ?_⟩) hHeld ?_
      rotate_left
      · intro w hSw; (try dsimp only at hSw); go_simp; (try with_reducible rfl)
      simp only [Act.put, List.setIfInBounds_toArray, List.set_cons_zero, List.set_cons_succ]
      refine wpAnyH_ready (rs := [1]) (by kernel_rfl) (by simp) ?_
      refine (AllReadyH.cons (o := (Go.Oper.mk (some 82) (Go.Op.call (Go.Call.mk (Go.Callee.value (Go.Operand.func 13)) #[Go.Operand.tmp 81] #[28])) 33 _ #[Go.Edge.mk 0 Go.Ground.data] none)) rfl (fun K hK => ?_) AllReadyH.nil)
      · skip
        go_simp
        ((refine Calls.mono (HN.out _ (by first | exact HB.out | exact HB.out.drew)) ?_); rintro e wn ⟨vn, rfl, zz, bb⟩; obtain ⟨aawn, ccwn, rfl, -⟩ := (show TRow wn vn _ from zz.srow).open; have HZN := Lib.hid (fun W (hb : Below wn.heap.size wn W) => (SRow.kept zz.srow hb)); clear zz; have BN := Lib.hid bb; have HBn : Below w.heap.size w wn := (by first | exact HB.out.trans (bb.mono HB.out.size) | exact HB.out.drew.trans (bb.mono HB.out.drew.size)); replace HB := Lib.hid HBn; clear HBn bb)
        go_wp2_with fail
        refine hK.out _ _ ?_ (fun hHeld => ?_)
        · first | exact HCs.out _ HB.out | exact HCs.out _ HB.out.drew
        clear hK K
        (try simp only [Act.put, List.setIfInBounds_toArray, List.set_cons_zero, List.set_cons_succ])
        refine wpAnyH_ready (rs := [3]) (by kernel_rfl) (by simp) ?_
        refine (AllReadyH.cons (o := (Go.Oper.mk (some 84) (Go.Op.call (Go.Call.mk (Go.Callee.value (Go.Operand.func 45)) #[Go.Operand.tmp 83, Go.Operand.const (Go.Value.bool false)] #[47, 4])) 33 _ #[Go.Edge.mk 2 Go.Ground.data, Go.Edge.mk 1 Go.Ground.chain] none)) rfl (fun K hK => ?_) AllReadyH.nil)
        · skip
          go_simp
          ((refine Calls.mono (HT0.out _ (by first | exact HB.out | exact HB.out.drew)) ?_); intro e wt he; obtain ⟨vt, rfl, zz, bb⟩ := he.own; clear he; obtain ⟨aawt, ccwt, rfl, -⟩ := zz.trow.open; have HZT := Lib.hid (fun W (hb : Below wt.heap.size wt W) => (SRow.kept zz.trow hb)); clear zz; have BT := Lib.hid bb; have HBn : Below w.heap.size w wt := (by first | exact HB.out.trans (bb.mono HB.out.size) | exact HB.out.drew.trans (bb.mono HB.out.drew.size)); replace HB := Lib.hid HBn; clear HBn bb)
          go_wp2_with fail
          refine hK.out _ _ ?_ (fun hHeld => ?_)
          · first | exact HCs.out _ HB.out | exact HCs.out _ HB.out.drew
          clear hK K
          (try simp only [Act.put, List.setIfInBounds_toArray, List.set_cons_zero, List.set_cons_succ])
          refine wpAnyH_ready (rs := [4]) (by kernel_rfl) (by simp) ?_
          refine (AllReadyH.cons (o := (Go.Oper.mk (some 85) (Go.Op.call (Go.Call.mk (Go.Callee.value (Go.Operand.func 18)) #[Go.Operand.tmp 82, Go.Operand.tmp 84] #[33, 33])) 4 _ #[Go.Edge.mk 1 Go.Ground.data, Go.Edge.mk 3 Go.Ground.data, Go.Edge.mk 3 Go.Ground.chain] none)) rfl (fun K hK => ?_) AllReadyH.nil)
          · skip
            go_simp
            ((refine Calls.mono (texts_same (keys L) _ _ (by rw [HKL.out]; omega) _ (by first | exact HZN.out _ (Below.refl _ _) | exact HZN.out _ BT.out) (by first | exact HZT.out _ (Below.refl _ _) | exact HZT.out _ BN.out)) ?_); rintro e wx ⟨rfl, nn, hwx⟩; have HBn : Below w.heap.size w wx := (by rw [hwx]; exact below_drewN HB.out _); replace HB := Lib.hid HBn; clear HBn hwx)
            go_wp2_with fail
            refine hK.out _ _ ?_ (fun hHeld => ?_)
            · first | exact HCs.out _ HB.out | exact HCs.out _ HB.out.drew
            clear hK K
            (try simp only [Act.put, List.setIfInBounds_toArray, List.set_cons_zero, List.set_cons_succ])
            refine wpAnyH_take (i := 5) (oi := (Go.Oper.mk (some 86) (Go.Op.move (Go.Operand.tmp 85)) 4 _ #[Go.Edge.mk 4 Go.Ground.data, Go.Edge.mk 4 Go.Ground.chain] none)) (v := ?_) rfl (by kernel_rfl) (by kernel_rfl) (by kernel_rfl) (fun _ _ _ h => h) (Or.inl ⟨by rfl, ?_⟩) hHeld ?_
            rotate_left
            · intro w hSw; (try dsimp only at hSw); go_simp; (try with_reducible rfl)
            simp only [Act.put, List.setIfInBounds_toArray, List.set_cons_zero, List.set_cons_succ]
            refine wpAnyH_take (i := 6) (oi := (Go.Oper.mk (some 87) (Go.Op.move (Go.Operand.tmp 0)) 28 _ #[Go.Edge.mk 5 Go.Ground.guard] (some (5, true)))) (v := ?_) rfl (by kernel_rfl) (by kernel_rfl) (by kernel_rfl) (fun _ _ _ h => h) (Or.inl ⟨by rfl, ?_⟩) hHeld ?_
            rotate_left
            · intro w hSw; (try dsimp only at hSw); go_simp; (try with_reducible rfl)
            simp only [Act.put, List.setIfInBounds_toArray, List.set_cons_zero, List.set_cons_succ]
            refine wpAnyH_take (i := 8) (oi := (Go.Oper.mk (some 89) (Go.Op.move (Go.Operand.tmp 1)) 47 _ #[Go.Edge.mk 5 Go.Ground.guard] (some (5, true)))) (v := ?_) rfl (by kernel_rfl) (by kernel_rfl) (by kernel_rfl) (fun _ _ _ h => h) (Or.inl ⟨by rfl, ?_⟩) hHeld ?_
            rotate_left
            · intro w hSw; (try dsimp only at hSw); go_simp; (try with_reducible rfl)
            simp only [Act.put, List.setIfInBounds_toArray, List.set_cons_zero, List.set_cons_succ]
            refine wpAnyH_ready (rs := [7]) (by kernel_rfl) (by simp) ?_
            refine (AllReadyH.cons (o := (Go.Oper.mk (some 88) (Go.Op.call (Go.Call.mk (Go.Callee.value (Go.Operand.func 19)) #[Go.Operand.tmp 87] #[28])) 33 _ #[Go.Edge.mk 6 Go.Ground.data, Go.Edge.mk 5 Go.Ground.chain, Go.Edge.mk 5 Go.Ground.guard] (some (5, true)))) rfl (fun K hK => ?_) AllReadyH.nil)
            · skip
              go_simp
              ((refine Calls.mono (HL.out _ (by first | exact HB.out | exact HB.out.drew)) ?_); rintro e wl ⟨vl, rfl, zz, bb⟩; obtain ⟨aawl, ccwl, rfl, -⟩ := (show TRow wl vl _ from zz.srow).open; have HZL := Lib.hid (fun W (hb : Below wl.heap.size wl W) => (SRow.kept zz.srow hb)); clear zz; have BL := Lib.hid bb; have HBn : Below w.heap.size w wl := (by first | exact HB.out.trans (bb.mono HB.out.size) | exact HB.out.drew.trans (bb.mono HB.out.drew.size)); replace HB := Lib.hid HBn; clear HBn bb)
              go_wp2_with fail
              refine hK.out _ _ ?_ (fun hHeld => ?_)
              · first | exact HCs.out _ HB.out | exact HCs.out _ HB.out.drew
              clear hK K
              (try simp only [Act.put, List.setIfInBounds_toArray, List.set_cons_zero, List.set_cons_succ])
              refine wpAnyH_ready (rs := [9]) (by kernel_rfl) (by simp) ?_
              refine (AllReadyH.cons (o := (Go.Oper.mk (some 90) (Go.Op.call (Go.Call.mk (Go.Callee.value (Go.Operand.func 45)) #[Go.Operand.tmp 89, Go.Operand.const (Go.Value.bool true)] #[47, 4])) 33 _ #[Go.Edge.mk 8 Go.Ground.data, Go.Edge.mk 7 Go.Ground.chain, Go.Edge.mk 5 Go.Ground.guard] (some (5, true)))) rfl (fun K hK => ?_) AllReadyH.nil)
              · skip
                go_simp
                ((refine Calls.mono (HT1.out _ (by first | exact HB.out | exact HB.out.drew)) ?_); intro e wu he; obtain ⟨vu, rfl, zz, bb⟩ := he.own; clear he; obtain ⟨aawu, ccwu, rfl, -⟩ := zz.trow.open; have HZU := Lib.hid (fun W (hb : Below wu.heap.size wu W) => (SRow.kept zz.trow hb)); clear zz; have BU := Lib.hid bb; have HBn : Below w.heap.size w wu := (by first | exact HB.out.trans (bb.mono HB.out.size) | exact HB.out.drew.trans (bb.mono HB.out.drew.size)); replace HB := Lib.hid HBn; clear HBn bb)
                go_wp2_with fail
                refine hK.out _ _ ?_ (fun hHeld => ?_)
                · first | exact HCs.out _ HB.out | exact HCs.out _ HB.out.drew
                clear hK K
                (try simp only [Act.put, List.setIfInBounds_toArray, List.set_cons_zero, List.set_cons_succ])
                refine wpAnyH_ready (rs := [10]) (by kernel_rfl) (by simp) ?_
                refine (AllReadyH.cons (o := (Go.Oper.mk (some 91) (Go.Op.call (Go.Call.mk (Go.Callee.value (Go.Operand.func 18)) #[Go.Operand.tmp 88, Go.Operand.tmp 90] #[33, 33])) 4 _ #[Go.Edge.mk 7 Go.Ground.data, Go.Edge.mk 9 Go.Ground.data, Go.Edge.mk 9 Go.Ground.chain, Go.Edge.mk 5 Go.Ground.guard] (some (5, true)))) rfl (fun K hK => ?_) AllReadyH.nil)
                · skip
                  go_simp
                  ((refine Calls.mono (texts_same (keys M) _ _ (by rw [HKM.out]; omega) _ (by first | exact HZL.out _ (Below.refl _ _) | exact HZL.out _ BU.out) (by first | exact HZU.out _ (Below.refl _ _) | exact HZU.out _ BL.out)) ?_); rintro e wy ⟨rfl, nn, hwx⟩; have HBn : Below w.heap.size w wy := (by rw [hwx]; exact below_drewN HB.out _); replace HB := Lib.hid HBn; clear HBn hwx)
                  go_wp2_with fail
                  refine hK.out _ _ ?_ (fun hHeld => ?_)
                  · first | exact HCs.out _ HB.out | exact HCs.out _ HB.out.drew
                  clear hK K
                  (try simp only [Act.put, List.setIfInBounds_toArray, List.set_cons_zero, List.set_cons_succ])
                  refine wpAnyH_take (i := 11) (oi := (Go.Oper.mk (some 92) (Go.Op.pick (Go.Operand.tmp 86) (Go.Operand.tmp 91) (Go.Operand.const (Go.Value.bool false))) 4 _ #[Go.Edge.mk 5 Go.Ground.data, Go.Edge.mk 10 Go.Ground.data] none)) (v := ?_) rfl (by kernel_rfl) (by kernel_rfl) (by kernel_rfl) (fun _ _ _ h => h) (Or.inl ⟨by rfl, ?_⟩) hHeld ?_
                  rotate_left
                  · intro w hSw; (try dsimp only at hSw); go_simp; (try with_reducible rfl)
                  simp only [Act.put, List.setIfInBounds_toArray, List.set_cons_zero, List.set_cons_succ]
                  refine wpAnyH_take (i := 12) (oi := (Go.Oper.mk (some 93) (Go.Op.move (Go.Operand.tmp 92)) 4 _ #[Go.Edge.mk 11 Go.Ground.data, Go.Edge.mk 10 Go.Ground.chain] none)) (v := ?_) rfl (by kernel_rfl) (by kernel_rfl) (by kernel_rfl) (fun _ _ _ h => h) (Or.inl ⟨by rfl, ?_⟩) hHeld ?_
                  rotate_left
                  · intro w hSw; (try dsimp only at hSw); go_simp; (try with_reducible rfl)
                  simp only [Act.put, List.setIfInBounds_toArray, List.set_cons_zero, List.set_cons_succ]
                  refine wpAnyH_take (i := 13) (oi := (Go.Oper.mk (some 94) (Go.Op.move (Go.Operand.tmp 0)) 28 _ #[Go.Edge.mk 12 Go.Ground.guard] (some (12, true)))) (v := ?_) rfl (by kernel_rfl) (by kernel_rfl) (by kernel_rfl) (fun _ _ _ h => h) (Or.inl ⟨by rfl, ?_⟩) hHeld ?_
                  rotate_left
                  · intro w hSw; (try dsimp only at hSw); go_simp; (try with_reducible rfl)
                  simp only [Act.put, List.setIfInBounds_toArray, List.set_cons_zero, List.set_cons_succ]
                  refine wpAnyH_take (i := 15) (oi := (Go.Oper.mk (some 96) (Go.Op.move (Go.Operand.tmp 1)) 47 _ #[Go.Edge.mk 12 Go.Ground.guard] (some (12, true)))) (v := ?_) rfl (by kernel_rfl) (by kernel_rfl) (by kernel_rfl) (fun _ _ _ h => h) (Or.inl ⟨by rfl, ?_⟩) hHeld ?_
                  rotate_left
                  · intro w hSw; (try dsimp only at hSw); go_simp; (try with_reducible rfl)
                  simp only [Act.put, List.setIfInBounds_toArray, List.set_cons_zero, List.set_cons_succ]
                  refine wpAnyH_take (i := 16) (oi := (Go.Oper.mk (some 97) (Go.Op.nilCheck (Go.Operand.tmp 96)) 0 _ #[Go.Edge.mk 15 Go.Ground.data, Go.Edge.mk 12 Go.Ground.guard] (some (12, true)))) (v := ?_) rfl (by kernel_rfl) (by kernel_rfl) (by kernel_rfl) (fun _ _ _ h => h) (Or.inl ⟨by rfl, ?_⟩) hHeld ?_
                  rotate_left
                  · intro w hSw; (try dsimp only at hSw); go_simp; (try with_reducible rfl)
                  simp only [Act.put, List.setIfInBounds_toArray, List.set_cons_zero, List.set_cons_succ]
                  refine wpAnyH_take (i := 17) (oi := (Go.Oper.mk (some 98) (Go.Op.fieldAddr 52 (Go.Operand.tmp 97) 5) 0 _ #[Go.Edge.mk 16 Go.Ground.data, Go.Edge.mk 12 Go.Ground.guard] (some (12, true)))) (v := ?_) rfl (by kernel_rfl) (by kernel_rfl) (by kernel_rfl) (fun _ _ _ h => h) (Or.inl ⟨by rfl, ?_⟩) hHeld ?_
                  rotate_left
                  · intro w hSw; (try dsimp only at hSw); go_simp; (try with_reducible rfl)
                  simp only [Act.put, List.setIfInBounds_toArray, List.set_cons_zero, List.set_cons_succ]
                  refine wpAnyH_take (i := 18) (oi := (Go.Oper.mk (some 99) (Go.Op.load 3 (Go.Operand.tmp 98)) 3 _ #[Go.Edge.mk 17 Go.Ground.data, Go.Edge.mk 12 Go.Ground.guard] (some (12, true)))) (v := ?_) rfl (by kernel_rfl) (by kernel_rfl) (by kernel_rfl) (fun _ _ _ h => h) (Or.inl ⟨by rfl, ?_⟩) hHeld ?_
                  rotate_left
                  · intro w hSw; (try dsimp only at hSw); go_simp; (try with_reducible rfl)
                  simp only [Act.put, List.setIfInBounds_toArray, List.set_cons_zero, List.set_cons_succ]
                  refine wpAnyH_ready (rs := [14]) (by kernel_rfl) (by simp) ?_
                  refine (AllReadyH.cons (o := (Go.Oper.mk (some 95) (Go.Op.call (Go.Call.mk (Go.Callee.value (Go.Operand.func 25)) #[Go.Operand.tmp 94] #[28])) 3 _ #[Go.Edge.mk 13 Go.Ground.data, Go.Edge.mk 12 Go.Ground.chain, Go.Edge.mk 12 Go.Ground.guard] (some (12, true)))) rfl (fun K hK => ?_) AllReadyH.nil)
                  · skip
                    go_simp
                    ((refine Calls.mono (HSt.out _ HB.out) ?_); rintro e ws ⟨rfl, rfl⟩)
                    go_wp2_with fail
                    refine hK.out _ _ ?_ (fun hHeld => ?_)
                    · first | exact HCs.out _ HB.out | exact HCs.out _ HB.out.drew
                    clear hK K
                    (try simp only [Act.put, List.setIfInBounds_toArray, List.set_cons_zero, List.set_cons_succ])
                    refine wpAnyH_take (i := 19) (oi := (Go.Oper.mk (some 100) (Go.Op.binOp Go.BinOp.eql 3 (Go.Operand.tmp 95) (Go.Operand.tmp 99) 3) 4 _ #[Go.Edge.mk 14 Go.Ground.data, Go.Edge.mk 18 Go.Ground.data, Go.Edge.mk 12 Go.Ground.guard] (some (12, true)))) (v := ?_) rfl (by kernel_rfl) (by kernel_rfl) (by kernel_rfl) (fun _ _ _ h => h) (Or.inl ⟨by rfl, ?_⟩) hHeld ?_
                    rotate_left
                    · intro w hSw; (try dsimp only at hSw); go_simp; (try with_reducible rfl)
                    simp only [Act.put, List.setIfInBounds_toArray, List.set_cons_zero, List.set_cons_succ]
                    refine wpAnyH_take (i := 20) (oi := (Go.Oper.mk (some 101) (Go.Op.pick (Go.Operand.tmp 93) (Go.Operand.tmp 100) (Go.Operand.const (Go.Value.bool false))) 4 _ #[Go.Edge.mk 12 Go.Ground.data, Go.Edge.mk 19 Go.Ground.data] none)) (v := ?_) rfl (by kernel_rfl) (by kernel_rfl) (by kernel_rfl) (fun _ _ _ h => h) (Or.inl ⟨by rfl, ?_⟩) hHeld ?_
                    rotate_left
                    · intro w hSw; (try dsimp only at hSw); go_simp; (try with_reducible rfl)
                    simp only [Act.put, List.setIfInBounds_toArray, List.set_cons_zero, List.set_cons_succ]
                    refine wpAnyH_take (i := 21) (oi := (Go.Oper.mk (some 102) (Go.Op.move (Go.Operand.tmp 101)) 4 _ #[Go.Edge.mk 20 Go.Ground.data, Go.Edge.mk 14 Go.Ground.chain] none)) (v := ?_) rfl (by kernel_rfl) (by kernel_rfl) (by kernel_rfl) (fun _ _ _ h => h) (Or.inl ⟨by rfl, ?_⟩) hHeld ?_
                    rotate_left
                    · intro w hSw; (try dsimp only at hSw); go_simp; (try with_reducible rfl)
                    simp only [Act.put, List.setIfInBounds_toArray, List.set_cons_zero, List.set_cons_succ]
                    refine wpAnyH_take (i := 22) (oi := (Go.Oper.mk (some 103) (Go.Op.move (Go.Operand.tmp 0)) 28 _ #[Go.Edge.mk 21 Go.Ground.guard] (some (21, true)))) (v := ?_) rfl (by kernel_rfl) (by kernel_rfl) (by kernel_rfl) (fun _ _ _ h => h) (Or.inl ⟨by rfl, ?_⟩) hHeld ?_
                    rotate_left
                    · intro w hSw; (try dsimp only at hSw); go_simp; (try with_reducible rfl)
                    simp only [Act.put, List.setIfInBounds_toArray, List.set_cons_zero, List.set_cons_succ]
                    refine wpAnyH_take (i := 24) (oi := (Go.Oper.mk (some 105) (Go.Op.move (Go.Operand.tmp 1)) 47 _ #[Go.Edge.mk 21 Go.Ground.guard] (some (21, true)))) (v := ?_) rfl (by kernel_rfl) (by kernel_rfl) (by kernel_rfl) (fun _ _ _ h => h) (Or.inl ⟨by rfl, ?_⟩) hHeld ?_
                    rotate_left
                    · intro w hSw; (try dsimp only at hSw); go_simp; (try with_reducible rfl)
                    simp only [Act.put, List.setIfInBounds_toArray, List.set_cons_zero, List.set_cons_succ]
                    refine wpAnyH_take (i := 25) (oi := (Go.Oper.mk (some 106) (Go.Op.nilCheck (Go.Operand.tmp 105)) 0 _ #[Go.Edge.mk 24 Go.Ground.data, Go.Edge.mk 21 Go.Ground.guard] (some (21, true)))) (v := ?_) rfl (by kernel_rfl) (by kernel_rfl) (by kernel_rfl) (fun _ _ _ h => h) (Or.inl ⟨by rfl, ?_⟩) hHeld ?_
                    rotate_left
                    · intro w hSw; (try dsimp only at hSw); go_simp; (try with_reducible rfl)
                    simp only [Act.put, List.setIfInBounds_toArray, List.set_cons_zero, List.set_cons_succ]
                    refine wpAnyH_take (i := 26) (oi := (Go.Oper.mk (some 107) (Go.Op.fieldAddr 52 (Go.Operand.tmp 106) 6) 0 _ #[Go.Edge.mk 25 Go.Ground.data, Go.Edge.mk 21 Go.Ground.guard] (some (21, true)))) (v := ?_) rfl (by kernel_rfl) (by kernel_rfl) (by kernel_rfl) (fun _ _ _ h => h) (Or.inl ⟨by rfl, ?_⟩) hHeld ?_
                    rotate_left
                    · intro w hSw; (try dsimp only at hSw); go_simp; (try with_reducible rfl)
                    simp only [Act.put, List.setIfInBounds_toArray, List.set_cons_zero, List.set_cons_succ]
                    refine wpAnyH_take (i := 27) (oi := (Go.Oper.mk (some 108) (Go.Op.load 4 (Go.Operand.tmp 107)) 4 _ #[Go.Edge.mk 26 Go.Ground.data, Go.Edge.mk 21 Go.Ground.guard] (some (21, true)))) (v := ?_) rfl (by kernel_rfl) (by kernel_rfl) (by kernel_rfl) (fun _ _ _ h => h) (Or.inl ⟨by rfl, ?_⟩) hHeld ?_
                    rotate_left
                    · intro w hSw; (try dsimp only at hSw); go_simp; (try with_reducible rfl)
                    simp only [Act.put, List.setIfInBounds_toArray, List.set_cons_zero, List.set_cons_succ]
                    refine wpAnyH_ready (rs := [23]) (by kernel_rfl) (by simp) ?_
                    refine (AllReadyH.cons (o := (Go.Oper.mk (some 104) (Go.Op.call (Go.Call.mk (Go.Callee.value (Go.Operand.func 24)) #[Go.Operand.tmp 103] #[28])) 4 _ #[Go.Edge.mk 22 Go.Ground.data, Go.Edge.mk 21 Go.Ground.chain, Go.Edge.mk 21 Go.Ground.guard] (some (21, true)))) rfl (fun K hK => ?_) AllReadyH.nil)
                    · skip
                      go_simp
                      ((refine Calls.mono (HDn.out _ HB.out) ?_); rintro e ws ⟨rfl, rfl⟩)
                      go_wp2_with fail
                      refine hK.out _ _ ?_ (fun hHeld => ?_)
                      · first | exact HCs.out _ HB.out | exact HCs.out _ HB.out.drew
                      clear hK K
                      (try simp only [Act.put, List.setIfInBounds_toArray, List.set_cons_zero, List.set_cons_succ])
                      refine wpAnyH_take (i := 28) (oi := (Go.Oper.mk (some 109) (Go.Op.binOp Go.BinOp.eql 4 (Go.Operand.tmp 104) (Go.Operand.tmp 108) 4) 4 _ #[Go.Edge.mk 23 Go.Ground.data, Go.Edge.mk 27 Go.Ground.data, Go.Edge.mk 21 Go.Ground.guard] (some (21, true)))) (v := ?_) rfl (by kernel_rfl) (by kernel_rfl) (by kernel_rfl) (fun _ _ _ h => h) (Or.inl ⟨by rfl, ?_⟩) hHeld ?_
                      rotate_left
                      · intro w hSw; (try dsimp only at hSw); go_simp; (try with_reducible rfl)
                      simp only [Act.put, List.setIfInBounds_toArray, List.set_cons_zero, List.set_cons_succ]
                      refine wpAnyH_take (i := 29) (oi := (Go.Oper.mk (some 110) (Go.Op.pick (Go.Operand.tmp 102) (Go.Operand.tmp 109) (Go.Operand.const (Go.Value.bool false))) 4 _ #[Go.Edge.mk 21 Go.Ground.data, Go.Edge.mk 28 Go.Ground.data] none)) (v := ?_) rfl (by kernel_rfl) (by kernel_rfl) (by kernel_rfl) (fun _ _ _ h => h) (Or.inl ⟨by rfl, ?_⟩) hHeld ?_
                      rotate_left
                      · intro w hSw; (try dsimp only at hSw); go_simp; (try with_reducible rfl)
                      simp only [Act.put, List.setIfInBounds_toArray, List.set_cons_zero, List.set_cons_succ]
                      refine wpAnyH_take (i := 30) (oi := (Go.Oper.mk (some 6) (Go.Op.assign (Go.Operand.tmp 110)) 4 _ #[Go.Edge.mk 29 Go.Ground.data, Go.Edge.mk 23 Go.Ground.chain, Go.Edge.mk 0 Go.Ground.phase, Go.Edge.mk 1 Go.Ground.phase, Go.Edge.mk 2 Go.Ground.phase, Go.Edge.mk 3 Go.Ground.phase, Go.Edge.mk 4 Go.Ground.phase, Go.Edge.mk 5 Go.Ground.phase, Go.Edge.mk 6 Go.Ground.phase, Go.Edge.mk 7 Go.Ground.phase, Go.Edge.mk 8 Go.Ground.phase, Go.Edge.mk 9 Go.Ground.phase, Go.Edge.mk 10 Go.Ground.phase, Go.Edge.mk 11 Go.Ground.phase, Go.Edge.mk 12 Go.Ground.phase, Go.Edge.mk 13 Go.Ground.phase, Go.Edge.mk 14 Go.Ground.phase, Go.Edge.mk 15 Go.Ground.phase, Go.Edge.mk 16 Go.Ground.phase, Go.Edge.mk 17 Go.Ground.phase, Go.Edge.mk 18 Go.Ground.phase, Go.Edge.mk 19 Go.Ground.phase, Go.Edge.mk 20 Go.Ground.phase, Go.Edge.mk 21 Go.Ground.phase, Go.Edge.mk 22 Go.Ground.phase, Go.Edge.mk 23 Go.Ground.phase, Go.Edge.mk 24 Go.Ground.phase, Go.Edge.mk 25 Go.Ground.phase, Go.Edge.mk 26 Go.Ground.phase, Go.Edge.mk 27 Go.Ground.phase, Go.Edge.mk 28 Go.Ground.phase, Go.Edge.mk 29 Go.Ground.phase] none)) (v := ?_) rfl (by kernel_rfl) (by kernel_rfl) (by kernel_rfl) (fun _ _ _ h => h) (Or.inl ⟨by rfl, ?_⟩) hHeld ?_
                      rotate_left
                      · intro w hSw; (try dsimp only at hSw); go_simp; (try with_reducible rfl)
                      simp only [Act.put, List.setIfInBounds_toArray, List.set_cons_zero, List.set_cons_succ]
                      refine wpAnyH_done (by kernel_rfl) ?_ _
                      go_wp2
                      go_ret
                      exact ⟨rfl, HD.out.below HB.out⟩
end Go.Proofs.Ytbjlffhnkcbnmaa
