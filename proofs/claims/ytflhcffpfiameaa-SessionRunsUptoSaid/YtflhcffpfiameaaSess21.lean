/- Both sessions behind deeds, rows beside them. -/
import Derived.Test.YtflhcffpfiameaaSess20
import Derived.Test.YtflhcffpfiameaaDeeds
namespace Go.Proofs.Ytflhcffpfiameaa
open Go.ChangeShapes Go.WideShapes Go.ChangeAt Go.RowKit Go.Maps
set_option linter.unusedVariables false

/-- Both sessions stand, with m places; none of their blocks lies between lo and hi. -/
def Both (B m b x lo hi : Nat) (w : World) : Prop := ∃ F G S, Pair B w b x F G S ∧ S.places = m ∧ ∀ k, F k ∨ G k → k < lo ∨ hi ≤ k
theorem Both.below {B m b x lo hi : Nat} {w w' : World} (h : Both B m b x lo hi w) (hb : Below w.heap.size w w') : Both B m b x lo hi w' := by
  obtain ⟨F, G, S, h1, h2, h3⟩ := h; exact ⟨F, G, S, h1.below hb, h2, h3⟩
theorem Both.start {m b x : Nat} {F G : Nat → Prop} {w w1 w2 : World} (s1 : Sess w1 b F (.new m)) (l1 : ∀ k, F k → w.heap.size ≤ k) (b1 : Below w.heap.size w w1) (s2 : RSess w2 x G (.new m)) (l2 : ∀ k, G k → w1.heap.size ≤ k) (b2 : Below w1.heap.size w1 w2) :
    Both w.heap.size m b x 0 0 w2 ∧ Below w.heap.size w w2 :=
  ⟨⟨F, G, .new m, ⟨s1.below b2, s2, fun k hf hg => by have := s1.lt k hf; have := l2 k hg; omega, l1, fun k hg => Nat.le_trans b1.size (l2 k hg), QOk.new, Nat.le_trans b1.size b2.size⟩, rfl, fun k _ => .inr (Nat.zero_le _)⟩, b1.trans (b2.mono b1.size)⟩
/-- New blocks were laid. -/
theorem Both.beside {B m b x : Nat} {w w' : World} (h : Both B m b x 0 0 w) (hb : Below w.heap.size w w') : Both B m b x w.heap.size w'.heap.size w' := by
  obtain ⟨F, G, S, h1, h2, h3⟩ := h
  exact ⟨F, G, S, h1.below hb, h2, fun k hk => .inl (hk.elim (h1.p.lt k) (h1.r.lt k))⟩
/-- A deed. -/
def DidEnd (B m b x lo hi : Nat) (w : World) (e : Ending) (w' : World) : Prop := e = .returned (.bool true) ∧ Both B m b x lo hi w' ∧ Below B w w' ∧ Wr (fun k => k < lo ∨ hi ≤ k) w w'
theorem did_any {B m b x lo hi : Nat} {w : World} (h : Both B m b x lo hi w) (hhi : hi ≤ w.heap.size) (kd : Int) (va : Option Addr) (vc : Nat) (bs : List ByteArray) (hs : ∀ W, Below B w W → SRow W (.slice va bs.length vc) bs) (hbs : ∀ y ∈ bs, y.size ≤ maxLen) (hlen : bs.length ≤ 1048576) :
    Calls Try.prog 19 #[.pointer (some ⟨b, 0, none⟩), .pointer (some ⟨x, 0, none⟩), .agg #[.int .i64 kd, .slice va bs.length vc]] w (DidEnd B m b x lo hi w) := by
  obtain ⟨F, G, S, h1, h2, h6⟩ := h
  refine (do_any h1 kd va vc bs hs hbs hlen).mono ?_
  rintro e w' ⟨he, F', G', S', h3, h4, h5, g1, g2⟩
  refine ⟨he, ⟨F', G', S', h3, h4.trans h2, fun k hk => ?_⟩, h5.below (fun k hk => hk.elim (h1.fB k) (h1.gB k)) h1.le, h5.mono fun k hk _ => h6 k hk⟩
  rcases hk with hk | hk
  · exact (g1 k hk).elim (fun h => h6 k (.inl h)) (fun h => .inr (by omega))
  · exact (g2 k hk).elim (fun h => h6 k (.inr h)) (fun h => .inr (by omega))
theorem like_both {B m b x lo hi : Nat} {w : World} (h : Both B m b x lo hi w) :
    Calls Try.prog 23 #[.pointer (some ⟨b, 0, none⟩), .pointer (some ⟨x, 0, none⟩)] w fun e w' => e = .returned (.bool true) ∧ Below w.heap.size w w' := by
  obtain ⟨F, G, S, h1, h2, h3⟩ := h
  obtain ⟨f1, f2, f3, f4⟩ := h1.p.facts
  exact like_any h1.p h1.r (fun r hr => by have := h1.q.1 r hr; omega) (by omega) f3
def DoesEnd (w : World) (e : Ending) (w' : World) : Prop := e = .returned (.bool true) ∧ Below w.heap.size w w'
theorem field_kindA (k : Int) (t : ByteArray) (w : World) : (Instr.field 31 (.agg #[.int .i64 k, .string t, .int .i64 0, .slice none 0 0]) 0).run Try.prog w = .ok (.int .i64 k) w := by kernel_rfl
/-- A session by itself; none of its blocks lies between lo and hi. -/
def Alone (B b lo hi : Nat) (S : SessM) (w : World) : Prop := ∃ F, Sess w b F S ∧ (∀ k, F k → B ≤ k) ∧ (∀ k, F k → k < lo ∨ hi ≤ k) ∧ B ≤ w.heap.size ∧ hi ≤ w.heap.size
theorem Both.alone {B m b x lo hi : Nat} {w : World} (h : Both B m b x lo hi w) (hhi : hi ≤ w.heap.size) : ∃ S, Alone B b lo hi S w ∧ QOk S ∧ S.places = m := by
  obtain ⟨F, G, S, h1, h2, h3⟩ := h
  exact ⟨S, ⟨F, h1.p, h1.fB, fun k hk => h3 k (.inl hk), h1.le, hhi⟩, h1.q, h2⟩
theorem Alone.below {B b lo hi : Nat} {S : SessM} {w w' : World} (h : Alone B b lo hi S w) (hb : Below w.heap.size w w') : Alone B b lo hi S w' := by
  obtain ⟨F, h1, h2, h3, h4, h5⟩ := h; exact ⟨F, h1.below hb, h2, h3, Nat.le_trans h4 hb.size, Nat.le_trans h5 hb.size⟩
theorem Alone.beside {B b lo hi : Nat} {S : SessM} {w w' : World} (h : Alone B b lo hi S w) (hb : Below w.heap.size w w') : Alone B b w.heap.size w'.heap.size S w' := by
  obtain ⟨F, h1, h2, h3, h4, h5⟩ := h
  exact ⟨F, h1.below hb, h2, fun k hk => .inl (h1.lt k hk), Nat.le_trans h4 hb.size, Nat.le_refl _⟩
/-- What a deed with it leaves. -/
def AloneEnd (B b lo hi : Nat) (S : SessM) (w w' : World) : Prop := Alone B b lo hi S w' ∧ Below B w w' ∧ Wr (fun k => k < lo ∨ hi ≤ k) w w'
theorem Alone.next {B b lo hi : Nat} {F F' : Nat → Prop} {S S' : SessM} {w w' : World} (h1 : Sess w b F S) (h2 : ∀ k, F k → B ≤ k) (h3 : ∀ k, F k → k < lo ∨ hi ≤ k) (h4 : B ≤ w.heap.size) (h5 : hi ≤ w.heap.size) (s : Sess w' b F' S') (g : Grew w F F') (r : Wr F w w') : AloneEnd B b lo hi S' w w' :=
  ⟨⟨F', s, fun k hk => (g k hk).elim (h2 k) (fun h => by omega), fun k hk => (g k hk).elim (h3 k) (fun h => .inr (by omega)), Nat.le_trans h4 r.size, Nat.le_trans h5 r.size⟩, r.below h2 h4, r.mono fun k hk _ => h3 k hk⟩
section
variable {B b lo hi : Nat} {S : SessM} {w : World}
theorem reset_al (h : Alone B b lo hi S w) : Calls Try.prog 22 #[.pointer (some ⟨b, 0, none⟩)] w fun e w' => e = .returned (.tuple #[]) ∧ AloneEnd B b lo hi S.gone w w' := by
  obtain ⟨F, h1, h2, h3, h4, h5⟩ := h
  exact (reset_some h1).mono fun e w' ⟨he, F', s, g, r⟩ => ⟨he, Alone.next h1 h2 h3 h4 h5 s g r⟩
theorem discard_al (h : Alone B b lo hi S w) : Calls Try.prog 24 #[.pointer (some ⟨b, 0, none⟩)] w fun e w' => e = .returned S.discR ∧ AloneEnd B b lo hi S.disc w w' := by
  obtain ⟨F, h1, h2, h3, h4, h5⟩ := h
  exact (discard_any h1).mono fun e w' ⟨he, F', s, g, r⟩ => ⟨he, Alone.next h1 h2 h3 h4 h5 s g r⟩
theorem begin_al (h : Alone B b lo hi S w) : Calls Try.prog 12 #[.pointer (some ⟨b, 0, none⟩)] w fun e w' => e = .returned S.begR ∧ AloneEnd B b lo hi S.beg w w' := by
  obtain ⟨F, h1, h2, h3, h4, h5⟩ := h
  exact (begin_any h1).mono fun e w' ⟨he, s, r⟩ => ⟨he, Alone.next h1 h2 h3 h4 h5 s (Grew.refl _ _) r⟩
theorem watch_al (h : Alone B b lo hi S w) (v : Value) (bs : List ByteArray) (hs : SRow w v bs) (hbs : ∀ x ∈ bs, x.size ≤ maxLen) (hlen : bs.length ≤ 8796093022208) :
    Calls Try.prog 11 #[.pointer (some ⟨b, 0, none⟩), v] w fun e w' => e = .returned (S.watchR bs) ∧ AloneEnd B b lo hi (S.watch bs) w w' := by
  obtain ⟨F, h1, h2, h3, h4, h5⟩ := h
  exact (watch_some h1 v bs hs hbs hlen).mono fun e w' ⟨he, F', s, g, r⟩ => ⟨he, Alone.next h1 h2 h3 h4 h5 s g r⟩
theorem queue_al (h : Alone B b lo hi S w) (v : Value) (bs : List ByteArray) (hs : SRow w v bs) (hlen : bs.length ≤ 8796093022208) :
    Calls Try.prog 14 #[.pointer (some ⟨b, 0, none⟩), v] w fun e w' => e = .returned S.pushR ∧ AloneEnd B b lo hi (S.push bs) w w' := by
  obtain ⟨F, h1, h2, h3, h4, h5⟩ := h
  exact (queue_any h1 v bs hs hlen).mono fun e w' ⟨F', he, s, g, r⟩ => ⟨he, Alone.next h1 h2 h3 h4 h5 s g r⟩
theorem touch_al (h : Alone B b lo hi S w) (v : Value) (bs : List ByteArray) (hs : SRow w v bs) (hbs : ∀ x ∈ bs, x.size ≤ maxLen) (hlen : bs.length ≤ 8796093022208) :
    Calls Try.prog 15 #[.pointer (some ⟨b, 0, none⟩), v] w fun e w' => e = .returned (.tuple #[]) ∧ AloneEnd B b lo hi (S.touch bs) w w' := by
  obtain ⟨F, h1, h2, h3, h4, h5⟩ := h
  exact (touch_any h1 v bs hs hbs hlen).mono fun e w' ⟨he, s, r⟩ => ⟨he, Alone.next h1 h2 h3 h4 h5 s (Grew.refl _ _) r⟩
def ExecAl (B b lo hi : Nat) (S : SessM) (w : World) (e : Ending) (w' : World) : Prop := ∃ v, e = .returned (.tuple #[v, .int .i64 S.execN]) ∧ LRow w' v (S.execQ.map textsB) ∧ AloneEnd B b lo hi S.execS w w'
theorem exec_al (h : Alone B b lo hi S w) : Calls Try.prog 16 #[.pointer (some ⟨b, 0, none⟩)] w (ExecAl B b lo hi S w) := by
  obtain ⟨F, h1, h2, h3, h4, h5⟩ := h
  exact (exec_some h1).mono fun e w' ⟨v, F', he, q, s, g, r⟩ => ⟨v, he, q.lrow, Alone.next h1 h2 h3 h4 h5 s g r⟩
/-- How many keys, how many commands it tells. -/
def CountEnd (n : Nat) (w : World) (e : Ending) (w' : World) : Prop := ∃ ao cp, e = .returned (.slice ao n cp) ∧ Below w.heap.size w w'
theorem watched_al (h : Alone B b lo hi S w) : Calls Try.prog 21 #[.pointer (some ⟨b, 0, none⟩)] w (CountEnd S.keys.length w) := by
  obtain ⟨F, h1, h2, h3, h4, h5⟩ := h
  refine (watched_any h1).mono ?_
  rintro e w' ⟨v, rfl, z, bl⟩
  obtain ⟨ao, cp, e2⟩ := (show TRow w' v (sortK S.keys) from z.srow).shape
  exact ⟨ao, cp, by rw [e2, sortK_length], bl⟩
theorem queued_al (h : Alone B b lo hi S w) (hq : QOk S) : Calls Try.prog 20 #[.pointer (some ⟨b, 0, none⟩)] w (CountEnd S.queue.length w) := by
  obtain ⟨F, h1, h2, h3, h4, h5⟩ := h
  refine (queued_any h1 (fun r hr => by have := hq.1 r hr; omega)).mono ?_
  rintro e w' ⟨v, rfl, z, bl⟩
  obtain ⟨ao, cp, e2⟩ := z.lrow.shape
  exact ⟨ao, cp, by rw [e2, List.length_map], bl⟩
end
theorem Alone.facts {B b lo hi : Nat} {S : SessM} {w : World} (h : Alone B b lo hi S w) : S.places ≤ 1024 ∧ S.queue.length ≤ S.places ∧ S.keys.length ≤ 1024 ∧ S.keys.Nodup := by
  obtain ⟨F, h1, _⟩ := h; exact h1.facts
theorem Alone.kept {B b lo hi : Nat} {S : SessM} {w w' : World} (h : Alone B b lo hi S w) (hw : Wr (fun k => lo ≤ k ∧ k < hi) w w') : Alone B b lo hi S w' := by
  obtain ⟨F, h1, h2, h3, h4, h5⟩ := h
  exact ⟨F, h1.kept hw (fun k hk h => by have := h3 k hk; omega), h2, h3, Nat.le_trans h4 hw.size, Nat.le_trans h5 hw.size⟩
section
variable {P : Program} {o : Oper} {a : Act} {Q : Exit → Act → World → Prop} {K : Act → World → Prop}
theorem wp_append_rowg {w0 w : World} (s x : Operand) (ho : o.op = .call { callee := .builtin .append, args := #[s, x], argTypes := #[23, 23] })
    (xs ts : List Tx) (v u : Value) (hs : a.eval s = v) (hx : a.eval x = u) (hM : Made w0 w v xs) (hu : TRow w u ts) (hb : Below w0.heap.size w0 w) (hn : xs.length + ts.length ≤ 8796093022200)
    (h : ∀ v' w', Made w0 w' v' (xs ++ ts) → Below w0.heap.size w0 w' → w.grownBy w' v.ownBlock → K (a.put o.dst v') w') : o.wp Try.prog a w K Q := by
  obtain ⟨i, hi, hz, hsz, hby⟩ := info_parts infoS
  obtain ⟨ao, cp, rfl, hh⟩ := hu.open
  have out : ∀ v' w', w'.ownsRow w0.heap.size 9 1 v' (xs.length + ts.length) (xs.map strV ++ ts.map strV) → w.grownBy w' v.ownBlock → K (a.put o.dst v') w' := fun v' w' hown hg =>
    h v' w' (Made.of (n := xs.length + ts.length) (by rw [List.map_append]; exact hown)) (hb.grown hg hb.size fun k hk => (hM.owns.lt k hk).1) hg
  have some_case : ∀ ad : Addr, ao = some ad → (∀ j u, (ts.map strV)[j]? = some u → w.cell? (ad.add j) = some u) → o.wp Try.prog a w K Q := fun ad e hc => by
    subst e
    exact wp_append_own w s x _ ho w0.heap.size 9 i _ 1 16 Try.underlying23 hi hz hsz hby rfl (by omega) v xs.length (xs.map strV) hs hM.owns ad ts.length cp (ts.map strV) hx (by simp) hc (by
      intro u hu
      obtain ⟨t, _, rfl⟩ := List.mem_map.1 hu
      rfl) (by unfold maxLen; omega) (by omega) hb.size fun v' w' h2 h3 _ => out v' w' h2 h3
  rcases hh with rfl | ⟨g, off, rfl, hg, hc⟩
  · rcases ao with _ | ad
    · have hrun := run_append_nilcap (P := Try.prog) (w := w) w0.heap.size 23 o.type 9 i 1 cp Try.underlying23 hi v xs.length (xs.map strV) hM.owns
      have hk := h v w (by rw [List.append_nil]; exact hM) hb (World.grownBy.refl _ _)
      unfold Oper.wp
      simp [execOp, ho, resolve, invoke, builtin, hs, hx, hrun, Result.andThen]
      exact hk
    · exact some_case ad rfl (by simp)
  · refine some_case _ rfl fun j u hu => ?_
    obtain ⟨t, ht, rfl⟩ : ∃ t, ts[j]? = some t ∧ strV t = u := by simpa using hu
    rw [add_plain]
    exact hc j t ht
theorem wpList_append_rowg {w0 w : World} {ops : Array Oper} {rest : List Oper} (hgd : o.guard = none) (s x : Operand) (ho : o.op = .call { callee := .builtin .append, args := #[s, x], argTypes := #[23, 23] })
    (xs ts : List Tx) (v u : Value) (hs : a.eval s = v) (hx : a.eval x = u) (hM : Made w0 w v xs) (hu : TRow w u ts) (hb : Below w0.heap.size w0 w) (hn : xs.length + ts.length ≤ 8796093022200)
    (h : ∀ v' w', Made w0 w' v' (xs ++ ts) → Below w0.heap.size w0 w' → w.grownBy w' v.ownBlock → wpList Try.prog ops Q rest (a.put o.dst v') w') : wpList Try.prog ops Q (o :: rest) a w :=
  wpList_plain hgd fun _ hK => wp_append_rowg s x ho xs ts v u hs hx hM hu hb hn fun v' w' h1 h2 h3 => hK _ _ (h v' w' h1 h2 h3)
theorem wpList_append_rowq {w0 w : World} {ops : Array Oper} {rest : List Oper} (hgd : Region.wanted o (yielded ops a.tmps) = true) (s x : Operand) (ho : o.op = .call { callee := .builtin .append, args := #[s, x], argTypes := #[23, 23] })
    (xs ts : List Tx) (v u : Value) (hs : a.eval s = v) (hx : a.eval x = u) (hM : Made w0 w v xs) (hu : TRow w u ts) (hb : Below w0.heap.size w0 w) (hn : xs.length + ts.length ≤ 8796093022200)
    (h : ∀ v' w', Made w0 w' v' (xs ++ ts) → Below w0.heap.size w0 w' → w.grownBy w' v.ownBlock → wpList Try.prog ops Q rest (a.put o.dst v') w') : wpList Try.prog ops Q (o :: rest) a w :=
  BigFrame.wpList_want hgd fun _ hK => wp_append_rowg s x ho xs ts v u hs hx hM hu hb hn fun v' w' h1 h2 h3 => hK _ _ (h v' w' h1 h2 h3)
end
end Go.Proofs.Ytflhcffpfiameaa
