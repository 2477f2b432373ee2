/- The walk of SessionAborts. -/
import Derived.Test.YtflhcffpfiameaaSess6
namespace Go.Proofs.Ytflhcffpfiameaa
open Go.ChangeShapes Go.WideShapes Go.ChangeAt Go.RowKit Go.Maps
set_option linter.unusedVariables false

theorem queue_any {w : World} {b : Nat} {F : Nat → Prop} {S : SessM} (h : Sess w b F S) (v : Value) (bs : List ByteArray) (hs : SRow w v bs) (hlen : bs.length ≤ 8796093022208) :
    Calls Try.prog 14 #[.pointer (some ⟨b, 0, none⟩), v] w fun e w' => ∃ F', e = .returned S.pushR ∧ Sess w' b F' (S.push bs) ∧ Grew w F F' ∧ Wr F w w' := by
  rcases hm : S.multi with _ | _
  · refine (queue_not h v hm).mono fun e w' ⟨h1, h2⟩ => ⟨F, ?_, ?_, Grew.refl _ _, Wr.of_below h2⟩
    · rw [h1]; unfold SessM.pushR; rw [if_pos hm]
    · unfold SessM.push; rw [if_pos hm]; exact h.below h2
  · by_cases hf : S.queue.length = S.places
    · refine (queue_full h v hm hf).mono fun e w' ⟨h1, h2, h3⟩ => ⟨F, ?_, ?_, Grew.refl _ _, h3⟩
      · rw [h1]; unfold SessM.pushR; rw [if_neg (by simp [hm]), if_pos hf]
      · unfold SessM.push; rw [if_neg (by simp [hm]), if_pos hf]; exact h2
    · have hr : S.queue.length ≤ S.places := by obtain ⟨_, _, _, h⟩ := h; exact h.room
      refine (queue_go h v bs hs hlen hm (by omega)).mono fun e w' ⟨h1, F', h2, h3, h4⟩ => ⟨F', ?_, ?_, h3, h4⟩
      · rw [h1]; unfold SessM.pushR; rw [if_neg (by simp [hm]), if_neg hf]
      · unfold SessM.push; rw [if_neg (by simp [hm]), if_neg hf]; exact h2
theorem exec_any {w : World} {b : Nat} {F : Nat → Prop} {S : SessM} (h : Sess w b F S) :
    Calls Try.prog 16 #[.pointer (some ⟨b, 0, none⟩)] w fun e w' => ExecEnd S b F w e w' := by
  rcases hm : S.multi with _ | _
  · exact exec_not h hm
  · exact exec_go h hm
/-- A session in MULTI, with all its places. -/
structure Going (S : SessM) (k m : Nat) : Prop where
  multi : S.multi = true
  places : S.places = 1024
  refused : m < k → S.refused = true
theorem Going.refuse {S : SessM} {k m : Nat} (h : Going S k m) : Going { S with refused := S.refused || S.multi } (m + 1) m := ⟨h.multi, h.places, fun _ => by simp [h.multi]⟩
theorem Going.push {S : SessM} {k m : Nat} (h : Going S k m) (bs : List ByteArray) : Going (S.push bs) k m := by
  unfold SessM.push
  rw [if_neg (by simp [h.multi])]
  split
  · exact ⟨h.multi, h.places, fun _ => rfl⟩
  · exact ⟨h.multi, h.places, h.refused⟩
theorem Going.mono {S : SessM} {k k' m : Nat} (h : Going S k m) (hk : m < k' → m < k) : Going S k' m := ⟨h.multi, h.places, fun h2 => h.refused (hk h2)⟩
theorem SessM.watch_multi (S : SessM) (bs : List ByteArray) : (S.watch bs).multi = S.multi ∧ (S.watch bs).refused = S.refused ∧ (S.watch bs).places = S.places := by
  unfold SessM.watch
  split <;> exact ⟨rfl, rfl, rfl⟩
theorem push_first {S : SessM} (hm : S.multi = true) (hq : S.queue = []) (hp : S.places = 1024) (bs : List ByteArray) : S.push bs = { S with queue := [listsB bs] } := by
  unfold SessM.push
  rw [if_neg (by simp [hm]), if_neg (by simp [hq, hp]), hq]
  rfl
theorem rows_one {w : World} {F : Nat → Prop} {v : Value} {l : List UInt8} (h : RowsR w F v [[l]]) : ∃ g c g2 c2, v = .slice (some ⟨g, 0, none⟩) 1 c ∧ w.cell? ⟨g, 0, none⟩ = some (.slice (some ⟨g2, 0, none⟩) 1 c2) ∧ w.cell? ⟨g2, 0, none⟩ = some (.string (str l)) := by
  obtain ⟨xs, hl, hr, hc⟩ := h
  rcases xs with _ | ⟨x, _ | ⟨y, r⟩⟩
  · simp at hl
  · obtain ⟨g, c, e, _, _, _, hcell⟩ := hr.full (by simp)
    have hx := hc 0 x [l] rfl rfl
    obtain ⟨g2, c2, e2, _, _, _, hcell2⟩ := hx.full (by simp)
    subst e2
    exact ⟨g, c, g2, c2, e, hcell 0 _ rfl, hcell2 0 _ rfl⟩
  · simp at hl
/-- Behind the loop: refused. -/
structure Ready (S : SessM) : Prop where
  multi : S.multi = true
  places : S.places = 1024
  refused : S.refused = true
theorem Ready.of_refuse {S : SessM} {k m : Nat} (h : Going S k m) : Ready { S with refused := S.refused || S.multi } := ⟨h.multi, h.places, by simp [h.multi]⟩
theorem Ready.of_going {S : SessM} {k m : Nat} (h : Going S k m) (hk : m < k) : Ready S := ⟨h.multi, h.places, h.refused hk⟩
theorem Ready.touch {S : SessM} (h : Ready S) (ks : List ByteArray) : Ready (S.touch ks) := ⟨h.multi, h.places, h.refused⟩
theorem Ready.execN {S : SessM} (h : Ready S) : S.execN = 3 := by unfold SessM.execN; rw [if_neg (by simp [h.multi]), if_pos h.refused]
theorem Ready.execQ {S : SessM} (h : Ready S) : S.execQ = [] := by unfold SessM.execQ; rw [if_neg (by simp [h.refused])]
theorem Ready.execS {S : SessM} (h : Ready S) : S.execS = S.gone := by unfold SessM.execS; rw [if_neg (by simp [h.multi])]
/-- What the law holds. -/
structure Held (W w : World) (b : Nat) (F : Nat → Prop) (S : SessM) : Prop where
  mine : Mine w W.heap.size b F S
  bel : Below W.heap.size W w
theorem Held.next {W w w' : World} {b : Nat} {F F' : Nat → Prop} {S S' : SessM} (h : Held W w b F S) (hs : Sess w' b F' S') (hg : Grew w F F') (hw : Wr F w w') : Held W w' b F' S' :=
  ⟨h.mine.next hs hg h.bel.size, h.bel.trans (hw.below h.mine.from_ h.bel.size)⟩
theorem Held.below {W w w' : World} {b : Nat} {F : Nat → Prop} {S : SessM} (h : Held W w b F S) (hw : Below w.heap.size w w') : Held W w' b F S :=
  ⟨h.mine.below hw, h.bel.trans (hw.mono h.bel.size)⟩
theorem Held.alloc {W w : World} {b : Nat} {F : Nat → Prop} {S : SessM} (h : Held W w b F S) (o : Obj) : Held W (w.alloc o) b F S := h.below ((Below.refl _ _).alloc (Nat.le_refl _) _)
theorem Held.start {W w w' : World} {b : Nat} {F : Nat → Prop} {S : SessM} (hw : Below W.heap.size W w) (hs : Sess w' b F S) (hl : ∀ k, F k → w.heap.size ≤ k) (hb : Below w.heap.size w w') : Held W w' b F S :=
  ⟨⟨hs, fun k hk => Nat.le_trans hw.size (hl k hk)⟩, hw.trans (hb.mono hw.size)⟩

set_option maxHeartbeats 3200000 in
set_option maxRecDepth 100000 in
theorem aborts_up (qv : Value) (rs : List (List ByteArray)) (hr : ∀ q ∈ rs, q.length ≤ 8796093022208) (hrn : rs.length ≤ 8796093022208) (a : Nat) (ha : a ≤ 9223372036854775807) (kv : Value) (ks : List ByteArray) (hks : ∀ x ∈ ks, x.size ≤ maxLen) (hkn : ks.length ≤ 8796093022208)
    (w : World) (hq : LRow w qv rs) (hk : SRow w kv ks) :
    Calls Try.prog 3 #[qv, .int .i64 a, kv] w fun e w' => e = .returned (.bool true) ∧ Below w.heap.size w w' := by
  obtain ⟨ao, cp, rfl, hq2⟩ := hq
  have HQ := Lib.hid (show LRow w (.slice ao rs.length cp) rs from ⟨ao, cp, rfl, hq2⟩)
  have HK := Lib.hid hk
  clear hq2 hk
  go_enter Try.func3, Try.ntmps3
  go_wp2_with fail
  ((refine (new_any 1024 (by omega) (by omega) _).mono ?_); rintro e w1 ⟨b, F1, rfl, s1, l1, b1⟩)
  have M1 := Lib.hid (Held.start (Below.refl _ _) s1 l1 b1)
  clear s1 l1 b1
  go_wp2_with fail
  ((with_reducible refine (awake_any _).mono ?_); rintro e w2 ⟨rfl, b2⟩)
  have M2 := Lib.hid (M1.out.below b2)
  clear M1 b2
  go_wp2_with fail
  ((with_reducible refine (refuse_any M2.out.mine.at_).mono ?_); rintro e w3 ⟨rfl, s3, r3⟩)
  have M3 := Lib.hid (M2.out.next (S' := .new 1024) s3 (Grew.refl _ _) r3)
  clear s3 r3 M2
  go_wp2_with fail
  ((with_reducible refine (watch_go M3.out.mine.at_ _ ks (HK.out.kept M3.out.bel) hks hkn rfl).mono ?_); rintro e w4 ⟨rfl, F4, s4, g4, r4⟩)
  have M4 := Lib.hid (M3.out.next s4 g4 r4)
  clear s4 g4 r4 M3
  generalize hrr : (SessM.new 1024).watchR ks = rv
  clear hrr
  have hS := SessM.watch_multi (.new 1024) ks
  generalize (SessM.new 1024).watch ks = S4 at *
  have hm4 : S4.multi = false := hS.1
  go_wp2_with fail
  ((with_reducible refine (begin_yes M4.out.mine.at_ hm4).mono ?_); rintro e w5 ⟨rfl, s5, r5⟩)
  have M5 := Lib.hid (M4.out.next s5 (Grew.refl _ _) r5)
  have HG := Lib.hid (show Going { S4 with multi := true } 0 (a % rs.length) from ⟨rfl, hS.2.2, fun h => by omega⟩)
  have hr4 : S4.refused = false := hS.2.1
  clear s5 r5 M4 hS hm4
  go_wp2_with fail
  ((with_reducible refine (refused_any M5.out.mine.at_).mono ?_); rintro e w6 ⟨rfl, rfl⟩)
  go_wp2_with fail
  clear hr4
  go_loopw [9] (fun i wr => ∃ (k : Nat) (F : Nat → Prop) (S : SessM), k ≤ rs.length ∧ i = .int .i64 k ∧ Hid (Held w wr b F S) ∧ Hid (Going S k (a % rs.length))) (fun i _ => rs.length - (intOf i).toNat)
  case atStart => exact ⟨0, F4, _, Nat.zero_le _, rfl, M5.out, HG.out⟩
  case round =>
    obtain ⟨k, F, S, hk, rfl, M, G⟩ := hrel
    clear M5 HG
    by_cases hlt : k < rs.length
    · obtain ⟨r, hx⟩ : ∃ r, rs[k]? = some r := ⟨rs[k], List.getElem?_eq_getElem hlt⟩
      have hrl := hr r (List.mem_of_getElem? hx)
      have hpos : (0 : Int) < (rs.length : Int) := by omega
      have hne : ((rs.length : Int) == 0) = false := by rw [beq_eq_false_iff_ne]; omega
      by_cases hm : k = a % rs.length
      · have hmI : ((k : Int) == (a : Int) % (rs.length : Int)) = true := by rw [beq_iff_eq]; omega
        have HM := Lib.hid hm
        clear hm
        go_wp2_with fail
        ((with_reducible refine (refuse_any M.out.mine.at_).mono ?_); rintro e w7 ⟨rfl, s7, r7⟩)
        have M7 := Lib.hid (M.out.next s7 (Grew.refl _ _) r7)
        have G7 := Lib.hid G.out.refuse
        clear s7 r7 M G hmI
        have hq7 := HQ.out.kept M7.out.bel
        obtain ⟨ao', cp', e', hc⟩ := hq7
        rw [Value.slice.injEq] at e'
        obtain ⟨rfl, _, rfl⟩ := e'
        rcases hc with rfl | ⟨g, off, rfl, hg, hcell⟩
        · simp at hlt
        obtain ⟨x, hcx, hsx⟩ := hcell k r hx
        have HX := Lib.hid hsx
        have HXk := Lib.hid hx
        clear hcell hsx hx
        go_wp2_with fail
        ((with_reducible refine (queue_any M7.out.mine.at_ _ r HX.out hrl).mono ?_); rintro e w8 ⟨F8, rfl, s8, g8, r8⟩)
        have M8 := Lib.hid (M7.out.next s8 g8 r8)
        have G8 := Lib.hid (G7.out.push r)
        clear s8 g8 r8 M7 G7
        generalize (SessM.pushR _) = rv8
        go_wp2
        go_roundw
        case rel => exact ⟨k + 1, _, _, by omega, by go_num, M8.out, G8.out.mono (fun h => by have := HM.out; omega)⟩
        case measure => simp [intOf]; omega
      · have hmI : ((k : Int) == (a : Int) % (rs.length : Int)) = false := by rw [beq_eq_false_iff_ne]; omega
        have HM := Lib.hid hm
        clear hm
        have hq7 := HQ.out.kept M.out.bel
        obtain ⟨ao', cp', e', hc⟩ := hq7
        rw [Value.slice.injEq] at e'
        obtain ⟨rfl, _, rfl⟩ := e'
        rcases hc with rfl | ⟨g, off, rfl, hg, hcell⟩
        · simp at hlt
        obtain ⟨x, hcx, hsx⟩ := hcell k r hx
        have HX := Lib.hid hsx
        have HXk := Lib.hid hx
        clear hcell hsx hx
        go_wp2_with fail
        ((with_reducible refine (queue_any M.out.mine.at_ _ r HX.out hrl).mono ?_); rintro e w8 ⟨F8, rfl, s8, g8, r8⟩)
        have M8 := Lib.hid (M.out.next s8 g8 r8)
        have G8 := Lib.hid (G.out.push r)
        clear s8 g8 r8 M G
        generalize (SessM.pushR _) = rv8
        go_wp2
        go_roundw
        case rel => exact ⟨k + 1, _, _, by omega, by go_num, M8.out, G8.out.mono (fun h => by have := HM.out; omega)⟩
        case measure => simp [intOf]; omega
    · obtain rfl : rs.length = k := by omega
      by_cases h0 : rs.length = 0
      ·
        have hne : ((rs.length : Int) == 0) = true := by rw [beq_iff_eq]; omega
        clear h0
        go_wp2_with fail
        ((with_reducible refine (refuse_any M.out.mine.at_).mono ?_); rintro e wr ⟨rfl, s7, r7⟩)
        have M := Lib.hid (M.out.next s7 (Grew.refl _ _) r7)
        have R := Lib.hid (Ready.of_refuse G.out)
        clear s7 r7 G
        go_wp2_with fail
        ((with_reducible refine (touch_any M.out.mine.at_ _ ks (HK.out.kept M.out.bel) hks hkn).mono ?_); rintro e w10 ⟨rfl, s10, r10⟩)
        have M10 := Lib.hid (M.out.next s10 (Grew.refl _ _) r10)
        have R10 := Lib.hid (R.out.touch ks)
        clear s10 r10 M R
        generalize (SessM.touch _ ks) = S10 at *
        have hr10 := R10.out.refused
        go_wp2_with fail
        ((with_reducible refine (refused_any M10.out.mine.at_).mono ?_); rintro e w11 ⟨rfl, rfl⟩)
        have hN := R10.out.execN
        have hQ := R10.out.execQ
        have HS := Lib.hid R10.out.execS
        have hm10 := R10.out.multi
        go_wp2_with fail
        ((with_reducible refine (exec_go M10.out.mine.at_ hm10).mono ?_); rintro e w12 ⟨v12, F12, rfl, q12, s12, g12, r12⟩)
        rw [HS.out] at s12
        rw [hQ] at q12
        obtain ⟨ao12, cp12, rfl⟩ := q12.shape
        have M12 := Lib.hid (M10.out.next s12 g12 r12)
        have HR := Lib.hid (And.intro R10.out hr10)
        clear s12 g12 r12 M10 q12 hQ R10 hr10 hm10
        go_wp2_with fail
        ((with_reducible refine (multi_any M12.out.mine.at_).mono ?_); rintro e w13 ⟨rfl, rfl⟩)
        have hfm : S10.gone.multi = false := rfl
        have hfr : S10.gone.refused = false := rfl
        go_wp2_with fail
        ((with_reducible refine (refused_any M12.out.mine.at_).mono ?_); rintro e w13 ⟨rfl, rfl⟩)
        go_wp2_with fail
        ((with_reducible refine (begin_yes M12.out.mine.at_ hfm).mono ?_); rintro e w13 ⟨rfl, s13, r13⟩)
        have M13 := Lib.hid (M12.out.next s13 (Grew.refl _ _) r13)
        clear s13 r13 M12
        go_wp2_with fail
        ((refine (queue_any (M13.out.alloc _).mine.at_ _ [⟨#[80, 73, 78, 71]⟩] (srow_laid (heap_alloc_new _ _) rfl) (by simp)).mono ?_); rintro e w14 ⟨F14, rfl, s14, g14, r14⟩)
        rw [push_first (S := { S10.gone with multi := true }) rfl rfl HR.out.1.places] at s14
        have M14 := Lib.hid ((M13.out.alloc _).next s14 g14 r14)
        clear s14 g14 r14 M13
        generalize (SessM.pushR _) = rv14
        go_wp2_with fail
        ((with_reducible refine (exec_go M14.out.mine.at_ rfl).mono ?_); rintro e w15 ⟨v15, F15, rfl, q15, s15, g15, r15⟩)
        have q15 : RowsR w15 F14 v15 [[[80, 73, 78, 71]]] := q15
        have hN15 : SessM.execN { S10.gone with multi := true, queue := [listsB [⟨#[80, 73, 78, 71]⟩]] } = 1 := rfl
        have M15 := Lib.hid (M14.out.next s15 g15 r15)
        obtain ⟨gq, cq, gx, cx, rfl, hcq, hcx⟩ := rows_one q15
        have hpp : ((str [80, 73, 78, 71]).toList == [80, 73, 78, 71]) = true := by rw [ByteArray.toList_eq]; rfl
        clear s15 g15 r15 M14 q15
        go_wp2
        go_ret
        exact ⟨rfl, M15.out.bel⟩
      ·
        have hne : ((rs.length : Int) == 0) = false := by rw [beq_eq_false_iff_ne]; omega
        have R := Lib.hid (Ready.of_going G.out (Nat.mod_lt _ (by omega)))
        clear G h0
        go_wp2_with fail
        ((with_reducible refine (touch_any M.out.mine.at_ _ ks (HK.out.kept M.out.bel) hks hkn).mono ?_); rintro e w10 ⟨rfl, s10, r10⟩)
        have M10 := Lib.hid (M.out.next s10 (Grew.refl _ _) r10)
        have R10 := Lib.hid (R.out.touch ks)
        clear s10 r10 M R
        generalize (SessM.touch _ ks) = S10 at *
        have hr10 := R10.out.refused
        go_wp2_with fail
        ((with_reducible refine (refused_any M10.out.mine.at_).mono ?_); rintro e w11 ⟨rfl, rfl⟩)
        have hN := R10.out.execN
        have hQ := R10.out.execQ
        have HS := Lib.hid R10.out.execS
        have hm10 := R10.out.multi
        go_wp2_with fail
        ((with_reducible refine (exec_go M10.out.mine.at_ hm10).mono ?_); rintro e w12 ⟨v12, F12, rfl, q12, s12, g12, r12⟩)
        rw [HS.out] at s12
        rw [hQ] at q12
        obtain ⟨ao12, cp12, rfl⟩ := q12.shape
        have M12 := Lib.hid (M10.out.next s12 g12 r12)
        have HR := Lib.hid (And.intro R10.out hr10)
        clear s12 g12 r12 M10 q12 hQ R10 hr10 hm10
        go_wp2_with fail
        ((with_reducible refine (multi_any M12.out.mine.at_).mono ?_); rintro e w13 ⟨rfl, rfl⟩)
        have hfm : S10.gone.multi = false := rfl
        have hfr : S10.gone.refused = false := rfl
        go_wp2_with fail
        ((with_reducible refine (refused_any M12.out.mine.at_).mono ?_); rintro e w13 ⟨rfl, rfl⟩)
        go_wp2_with fail
        ((with_reducible refine (begin_yes M12.out.mine.at_ hfm).mono ?_); rintro e w13 ⟨rfl, s13, r13⟩)
        have M13 := Lib.hid (M12.out.next s13 (Grew.refl _ _) r13)
        clear s13 r13 M12
        go_wp2_with fail
        ((refine (queue_any (M13.out.alloc _).mine.at_ _ [⟨#[80, 73, 78, 71]⟩] (srow_laid (heap_alloc_new _ _) rfl) (by simp)).mono ?_); rintro e w14 ⟨F14, rfl, s14, g14, r14⟩)
        rw [push_first (S := { S10.gone with multi := true }) rfl rfl HR.out.1.places] at s14
        have M14 := Lib.hid ((M13.out.alloc _).next s14 g14 r14)
        clear s14 g14 r14 M13
        generalize (SessM.pushR _) = rv14
        go_wp2_with fail
        ((with_reducible refine (exec_go M14.out.mine.at_ rfl).mono ?_); rintro e w15 ⟨v15, F15, rfl, q15, s15, g15, r15⟩)
        have q15 : RowsR w15 F14 v15 [[[80, 73, 78, 71]]] := q15
        have hN15 : SessM.execN { S10.gone with multi := true, queue := [listsB [⟨#[80, 73, 78, 71]⟩]] } = 1 := rfl
        have M15 := Lib.hid (M14.out.next s15 g15 r15)
        obtain ⟨gq, cq, gx, cx, rfl, hcq, hcx⟩ := rows_one q15
        have hpp : ((str [80, 73, 78, 71]).toList == [80, 73, 78, 71]) = true := by rw [ByteArray.toList_eq]; rfl
        clear s15 g15 r15 M14 q15
        go_wp2
        go_ret
        exact ⟨rfl, M15.out.bel⟩
set_option maxHeartbeats 3200000 in
set_option maxRecDepth 100000 in
theorem aborts_neg (qv : Value) (rs : List (List ByteArray)) (hr : ∀ q ∈ rs, q.length ≤ 8796093022208) (hrn : rs.length ≤ 8796093022208) (a : Int) (ha : a < 0) (kv : Value) (ks : List ByteArray) (hks : ∀ x ∈ ks, x.size ≤ maxLen) (hkn : ks.length ≤ 8796093022208)
    (w : World) (hq : LRow w qv rs) (hk : SRow w kv ks) :
    Calls Try.prog 3 #[qv, .int .i64 a, kv] w fun e w' => e = .returned (.bool true) ∧ Below w.heap.size w w' := by
  obtain ⟨ao, cp, rfl, hq2⟩ := hq
  have HQ := Lib.hid (show LRow w (.slice ao rs.length cp) rs from ⟨ao, cp, rfl, hq2⟩)
  have HK := Lib.hid hk
  clear hq2 hk
  go_enter Try.func3, Try.ntmps3
  go_wp2_with fail
  ((refine (new_any 1024 (by omega) (by omega) _).mono ?_); rintro e w1 ⟨b, F1, rfl, s1, l1, b1⟩)
  have M1 := Lib.hid (Held.start (Below.refl _ _) s1 l1 b1)
  clear s1 l1 b1
  go_wp2_with fail
  ((with_reducible refine (awake_any _).mono ?_); rintro e w2 ⟨rfl, b2⟩)
  have M2 := Lib.hid (M1.out.below b2)
  clear M1 b2
  go_wp2_with fail
  ((with_reducible refine (refuse_any M2.out.mine.at_).mono ?_); rintro e w3 ⟨rfl, s3, r3⟩)
  have M3 := Lib.hid (M2.out.next (S' := .new 1024) s3 (Grew.refl _ _) r3)
  clear s3 r3 M2
  go_wp2_with fail
  ((with_reducible refine (watch_go M3.out.mine.at_ _ ks (HK.out.kept M3.out.bel) hks hkn rfl).mono ?_); rintro e w4 ⟨rfl, F4, s4, g4, r4⟩)
  have M4 := Lib.hid (M3.out.next s4 g4 r4)
  clear s4 g4 r4 M3
  generalize hrr : (SessM.new 1024).watchR ks = rv
  clear hrr
  have hS := SessM.watch_multi (.new 1024) ks
  generalize (SessM.new 1024).watch ks = S4 at *
  have hm4 : S4.multi = false := hS.1
  go_wp2_with fail
  ((with_reducible refine (begin_yes M4.out.mine.at_ hm4).mono ?_); rintro e w5 ⟨rfl, s5, r5⟩)
  have M5 := Lib.hid (M4.out.next s5 (Grew.refl _ _) r5)
  have HG := Lib.hid (show Going { S4 with multi := true } 0 (0) from ⟨rfl, hS.2.2, fun h => by omega⟩)
  have hr4 : S4.refused = false := hS.2.1
  clear s5 r5 M4 hS hm4
  go_wp2_with fail
  ((with_reducible refine (refused_any M5.out.mine.at_).mono ?_); rintro e w6 ⟨rfl, rfl⟩)
  go_wp2_with fail
  clear hr4
  go_loopw [9] (fun i wr => ∃ (k : Nat) (F : Nat → Prop) (S : SessM), k ≤ rs.length ∧ i = .int .i64 k ∧ Hid (Held w wr b F S) ∧ Hid (Going S k (0))) (fun i _ => rs.length - (intOf i).toNat)
  case atStart => exact ⟨0, F4, _, Nat.zero_le _, rfl, M5.out, HG.out⟩
  case round =>
    obtain ⟨k, F, S, hk, rfl, M, G⟩ := hrel
    clear M5 HG
    by_cases hlt : k < rs.length
    · obtain ⟨r, hx⟩ : ∃ r, rs[k]? = some r := ⟨rs[k], List.getElem?_eq_getElem hlt⟩
      have hrl := hr r (List.mem_of_getElem? hx)
      have hpos : (0 : Int) < (rs.length : Int) := by omega
      have hne : ((rs.length : Int) == 0) = false := by rw [beq_eq_false_iff_ne]; omega
      by_cases hm : k = 0
      · have hmI : ((k : Int) == 0) = true := by rw [beq_iff_eq]; omega
        have HM := Lib.hid hm
        clear hm
        go_wp2_with fail
        ((with_reducible refine (refuse_any M.out.mine.at_).mono ?_); rintro e w7 ⟨rfl, s7, r7⟩)
        have M7 := Lib.hid (M.out.next s7 (Grew.refl _ _) r7)
        have G7 := Lib.hid G.out.refuse
        clear s7 r7 M G hmI
        have hq7 := HQ.out.kept M7.out.bel
        obtain ⟨ao', cp', e', hc⟩ := hq7
        rw [Value.slice.injEq] at e'
        obtain ⟨rfl, _, rfl⟩ := e'
        rcases hc with rfl | ⟨g, off, rfl, hg, hcell⟩
        · simp at hlt
        obtain ⟨x, hcx, hsx⟩ := hcell k r hx
        have HX := Lib.hid hsx
        have HXk := Lib.hid hx
        clear hcell hsx hx
        go_wp2_with fail
        ((with_reducible refine (queue_any M7.out.mine.at_ _ r HX.out hrl).mono ?_); rintro e w8 ⟨F8, rfl, s8, g8, r8⟩)
        have M8 := Lib.hid (M7.out.next s8 g8 r8)
        have G8 := Lib.hid (G7.out.push r)
        clear s8 g8 r8 M7 G7
        generalize (SessM.pushR _) = rv8
        go_wp2
        go_roundw
        case rel => exact ⟨k + 1, _, _, by omega, by go_num, M8.out, G8.out.mono (fun h => by have := HM.out; omega)⟩
        case measure => simp [intOf]; omega
      · have hmI : ((k : Int) == 0) = false := by rw [beq_eq_false_iff_ne]; omega
        have HM := Lib.hid hm
        clear hm
        have hq7 := HQ.out.kept M.out.bel
        obtain ⟨ao', cp', e', hc⟩ := hq7
        rw [Value.slice.injEq] at e'
        obtain ⟨rfl, _, rfl⟩ := e'
        rcases hc with rfl | ⟨g, off, rfl, hg, hcell⟩
        · simp at hlt
        obtain ⟨x, hcx, hsx⟩ := hcell k r hx
        have HX := Lib.hid hsx
        have HXk := Lib.hid hx
        clear hcell hsx hx
        go_wp2_with fail
        ((with_reducible refine (queue_any M.out.mine.at_ _ r HX.out hrl).mono ?_); rintro e w8 ⟨F8, rfl, s8, g8, r8⟩)
        have M8 := Lib.hid (M.out.next s8 g8 r8)
        have G8 := Lib.hid (G.out.push r)
        clear s8 g8 r8 M G
        generalize (SessM.pushR _) = rv8
        go_wp2
        go_roundw
        case rel => exact ⟨k + 1, _, _, by omega, by go_num, M8.out, G8.out.mono (fun h => by have := HM.out; omega)⟩
        case measure => simp [intOf]; omega
    · obtain rfl : rs.length = k := by omega
      by_cases h0 : rs.length = 0
      ·
        have hne : ((rs.length : Int) == 0) = true := by rw [beq_iff_eq]; omega
        clear h0
        go_wp2_with fail
        ((with_reducible refine (refuse_any M.out.mine.at_).mono ?_); rintro e wr ⟨rfl, s7, r7⟩)
        have M := Lib.hid (M.out.next s7 (Grew.refl _ _) r7)
        have R := Lib.hid (Ready.of_refuse G.out)
        clear s7 r7 G
        go_wp2_with fail
        ((with_reducible refine (touch_any M.out.mine.at_ _ ks (HK.out.kept M.out.bel) hks hkn).mono ?_); rintro e w10 ⟨rfl, s10, r10⟩)
        have M10 := Lib.hid (M.out.next s10 (Grew.refl _ _) r10)
        have R10 := Lib.hid (R.out.touch ks)
        clear s10 r10 M R
        generalize (SessM.touch _ ks) = S10 at *
        have hr10 := R10.out.refused
        go_wp2_with fail
        ((with_reducible refine (refused_any M10.out.mine.at_).mono ?_); rintro e w11 ⟨rfl, rfl⟩)
        have hN := R10.out.execN
        have hQ := R10.out.execQ
        have HS := Lib.hid R10.out.execS
        have hm10 := R10.out.multi
        go_wp2_with fail
        ((with_reducible refine (exec_go M10.out.mine.at_ hm10).mono ?_); rintro e w12 ⟨v12, F12, rfl, q12, s12, g12, r12⟩)
        rw [HS.out] at s12
        rw [hQ] at q12
        obtain ⟨ao12, cp12, rfl⟩ := q12.shape
        have M12 := Lib.hid (M10.out.next s12 g12 r12)
        have HR := Lib.hid (And.intro R10.out hr10)
        clear s12 g12 r12 M10 q12 hQ R10 hr10 hm10
        go_wp2_with fail
        ((with_reducible refine (multi_any M12.out.mine.at_).mono ?_); rintro e w13 ⟨rfl, rfl⟩)
        have hfm : S10.gone.multi = false := rfl
        have hfr : S10.gone.refused = false := rfl
        go_wp2_with fail
        ((with_reducible refine (refused_any M12.out.mine.at_).mono ?_); rintro e w13 ⟨rfl, rfl⟩)
        go_wp2_with fail
        ((with_reducible refine (begin_yes M12.out.mine.at_ hfm).mono ?_); rintro e w13 ⟨rfl, s13, r13⟩)
        have M13 := Lib.hid (M12.out.next s13 (Grew.refl _ _) r13)
        clear s13 r13 M12
        go_wp2_with fail
        ((refine (queue_any (M13.out.alloc _).mine.at_ _ [⟨#[80, 73, 78, 71]⟩] (srow_laid (heap_alloc_new _ _) rfl) (by simp)).mono ?_); rintro e w14 ⟨F14, rfl, s14, g14, r14⟩)
        rw [push_first (S := { S10.gone with multi := true }) rfl rfl HR.out.1.places] at s14
        have M14 := Lib.hid ((M13.out.alloc _).next s14 g14 r14)
        clear s14 g14 r14 M13
        generalize (SessM.pushR _) = rv14
        go_wp2_with fail
        ((with_reducible refine (exec_go M14.out.mine.at_ rfl).mono ?_); rintro e w15 ⟨v15, F15, rfl, q15, s15, g15, r15⟩)
        have q15 : RowsR w15 F14 v15 [[[80, 73, 78, 71]]] := q15
        have hN15 : SessM.execN { S10.gone with multi := true, queue := [listsB [⟨#[80, 73, 78, 71]⟩]] } = 1 := rfl
        have M15 := Lib.hid (M14.out.next s15 g15 r15)
        obtain ⟨gq, cq, gx, cx, rfl, hcq, hcx⟩ := rows_one q15
        have hpp : ((str [80, 73, 78, 71]).toList == [80, 73, 78, 71]) = true := by rw [ByteArray.toList_eq]; rfl
        clear s15 g15 r15 M14 q15
        go_wp2
        go_ret
        exact ⟨rfl, M15.out.bel⟩
      ·
        have hne : ((rs.length : Int) == 0) = false := by rw [beq_eq_false_iff_ne]; omega
        have R := Lib.hid (Ready.of_going G.out (by omega))
        clear G h0
        go_wp2_with fail
        ((with_reducible refine (touch_any M.out.mine.at_ _ ks (HK.out.kept M.out.bel) hks hkn).mono ?_); rintro e w10 ⟨rfl, s10, r10⟩)
        have M10 := Lib.hid (M.out.next s10 (Grew.refl _ _) r10)
        have R10 := Lib.hid (R.out.touch ks)
        clear s10 r10 M R
        generalize (SessM.touch _ ks) = S10 at *
        have hr10 := R10.out.refused
        go_wp2_with fail
        ((with_reducible refine (refused_any M10.out.mine.at_).mono ?_); rintro e w11 ⟨rfl, rfl⟩)
        have hN := R10.out.execN
        have hQ := R10.out.execQ
        have HS := Lib.hid R10.out.execS
        have hm10 := R10.out.multi
        go_wp2_with fail
        ((with_reducible refine (exec_go M10.out.mine.at_ hm10).mono ?_); rintro e w12 ⟨v12, F12, rfl, q12, s12, g12, r12⟩)
        rw [HS.out] at s12
        rw [hQ] at q12
        obtain ⟨ao12, cp12, rfl⟩ := q12.shape
        have M12 := Lib.hid (M10.out.next s12 g12 r12)
        have HR := Lib.hid (And.intro R10.out hr10)
        clear s12 g12 r12 M10 q12 hQ R10 hr10 hm10
        go_wp2_with fail
        ((with_reducible refine (multi_any M12.out.mine.at_).mono ?_); rintro e w13 ⟨rfl, rfl⟩)
        have hfm : S10.gone.multi = false := rfl
        have hfr : S10.gone.refused = false := rfl
        go_wp2_with fail
        ((with_reducible refine (refused_any M12.out.mine.at_).mono ?_); rintro e w13 ⟨rfl, rfl⟩)
        go_wp2_with fail
        ((with_reducible refine (begin_yes M12.out.mine.at_ hfm).mono ?_); rintro e w13 ⟨rfl, s13, r13⟩)
        have M13 := Lib.hid (M12.out.next s13 (Grew.refl _ _) r13)
        clear s13 r13 M12
        go_wp2_with fail
        ((refine (queue_any (M13.out.alloc _).mine.at_ _ [⟨#[80, 73, 78, 71]⟩] (srow_laid (heap_alloc_new _ _) rfl) (by simp)).mono ?_); rintro e w14 ⟨F14, rfl, s14, g14, r14⟩)
        rw [push_first (S := { S10.gone with multi := true }) rfl rfl HR.out.1.places] at s14
        have M14 := Lib.hid ((M13.out.alloc _).next s14 g14 r14)
        clear s14 g14 r14 M13
        generalize (SessM.pushR _) = rv14
        go_wp2_with fail
        ((with_reducible refine (exec_go M14.out.mine.at_ rfl).mono ?_); rintro e w15 ⟨v15, F15, rfl, q15, s15, g15, r15⟩)
        have q15 : RowsR w15 F14 v15 [[[80, 73, 78, 71]]] := q15
        have hN15 : SessM.execN { S10.gone with multi := true, queue := [listsB [⟨#[80, 73, 78, 71]⟩]] } = 1 := rfl
        have M15 := Lib.hid (M14.out.next s15 g15 r15)
        obtain ⟨gq, cq, gx, cx, rfl, hcq, hcx⟩ := rows_one q15
        have hpp : ((str [80, 73, 78, 71]).toList == [80, 73, 78, 71]) = true := by rw [ByteArray.toList_eq]; rfl
        clear s15 g15 r15 M14 q15
        go_wp2
        go_ret
        exact ⟨rfl, M15.out.bel⟩
theorem sessionAborts_walk (v0 : Value) (rs : List (List ByteArray)) (hr : ∀ q ∈ rs, q.length ≤ 8796093022208) (hrn : rs.length ≤ 8796093022208) (a1 : Int) (w1 : (Lit.int .i64 a1).wf = true) (v2 : Value) (ks : List ByteArray) (hks : ∀ x ∈ ks, x.size ≤ maxLen) (hkn : ks.length ≤ 8796093022208)
    (w : World) (hq : LRow w v0 rs) (hk : SRow w v2 ks) :
    Calls Try.prog 3 #[v0, .int .i64 a1, v2] w fun e w' => e = .returned (.bool true) ∧ Below w.heap.size w w' := by
  have hb := bounds_i64 w1
  by_cases h : a1 < 0
  · exact aborts_neg v0 rs hr hrn a1 h v2 ks hks hkn w hq hk
  · obtain ⟨a, rfl⟩ := Int.eq_ofNat_of_zero_le (show 0 ≤ a1 by omega)
    exact aborts_up v0 rs hr hrn a (by omega) v2 ks hks hkn w hq hk
end Go.Proofs.Ytflhcffpfiameaa
