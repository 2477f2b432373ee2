/- The document's disk: Texts. -/
import Derived.Test.YtbjlffhnkcbnmaaRef5
import Derived.Test.YtbjlffhnkcbnmaaDZat
namespace Go.Proofs.Ytbjlffhnkcbnmaa
open Go.ChangeShapes Go.WideShapes Go.ChangeAt Go.RowKit Pl
set_option linter.unusedVariables false

def txRow (l : Nm) : List Value := l.map fun p => .string (str p.1)
theorem txRow_len (l : Nm) : (txRow l).length = l.length := by simp [txRow]
theorem txRow_take {l : Nm} {k : Nat} {p : Tx × Nat} (hp : l[k]? = some p) : txRow (l.take (k + 1)) = txRow (l.take k) ++ [.string (str p.1)] := by
  rw [List.take_add_one, hp]; simp [txRow]
section
variable {ops : Array Oper} {rest : List Oper} {o : Oper} {a : Act} {Q : Exit → Act → World → Prop}
/-- 'out = append(out, x)', one text. -/
theorem wpList_append_text (w : World) (hgd : o.guard = none) (s x : Operand) (ho : o.op = .call { callee := .builtin .append, args := #[s, x], argTypes := #[33, 33] })
    (base : Nat) (v : Value) (n : Nat) (xs : List Value) (hs : a.eval s = v) (hown : w.ownsRow base 9 1 v n xs)
    (u : Value) (h1 : u.oneCell' = true) (hx : a.eval x = .slice (some ⟨w.heap.size, 0, none⟩) 1 1)
    (h63 : n + 1 ≤ maxLen) (hbytes : (n + 1) * 16 ≤ 140737488355328) (hbase : base ≤ w.heap.size)
    (h : ∀ v' w', w'.ownsRow base 9 1 v' (n + 1) (xs ++ [u]) → (∀ (W : World) (B : Nat), Below B W w → B ≤ base → Below B W w') → wpList Try.prog ops Q rest (a.put o.dst v') w') :
    wpList Try.prog ops Q (o :: rest) a (w.alloc (.cells #[u] 9)) := by
  obtain ⟨i, hi, hz, hsz, hby⟩ := info_parts infoS
  refine wpList_append_own _ hgd s x _ ho base 9 i _ 1 16 Try.underlying33 hi hz hsz hby rfl (by omega) v n xs hs (hown.alloc _) ⟨w.heap.size, 0, none⟩ 1 1 [u] hx rfl (cell_one_new _ _ _) (by simp [h1]) h63 hbytes (by simp; omega) ?_
  intro v' w' hown' hg _
  have hg2 : w.grownBy w' v.ownBlock := World.grownBy.trans (World.grownBy_alloc w _ _) hg
  refine h v' w' hown' fun W B hb hB => hb.grown hg2 ?_ fun k hk => ?_
  · omega
  · have := (hown.lt k hk).1; omega
end
def RTextsEnd (L : Nm) (w : World) (e : Ending) (w' : World) : Prop := ∃ v, e = .returned v ∧ w'.ownsRow w.heap.size 9 1 v L.length (txRow L) ∧ Below w.heap.size w w'
set_option maxRecDepth 100000 in
theorem refTexts_any {w : World} {b : Nat} {F : Nat → Prop} {S : Dk} (h : RDisk w b F S) (hl : S.names.length ≤ 4194304) (hl2 : S.last.length ≤ 4194304) (la : Bool) :
    Calls Try.prog 45 #[.pointer (some ⟨b, 0, none⟩), .bool la] w (RTextsEnd (if S.down = true then [] else if la = true then S.last else S.names) w) := by
  obtain ⟨fv, nv, lv, ov, pv, h⟩ := h
  obtain ⟨na, nc, rfl⟩ := h.names.shape
  obtain ⟨ta, tc, rfl⟩ := h.last.shape
  obtain ⟨-, c1, c2, -, -, -, c6⟩ := h.cells
  obtain ⟨L, hL⟩ : ∃ L, (if la = true then S.last else S.names) = L := ⟨_, rfl⟩
  have HL := Lib.hid hL
  have hLl : L.length ≤ 4194304 := by rw [← hL]; split <;> assumption
  obtain ⟨xa, xc, hxv, hxr⟩ : ∃ xa xc, (if la = true then Value.slice ta S.last.length tc else Value.slice na S.names.length nc) = .slice xa L.length xc ∧ NRow w F (.slice xa L.length xc) L := by
    cases la with
    | true => exact ⟨ta, tc, by rw [← hL]; rfl, by rw [← hL]; exact h.last⟩
    | false => exact ⟨na, nc, by rw [← hL]; rfl, by rw [← hL]; exact h.names⟩
  have HX := Lib.hid hxr
  have HD := Lib.hid h
  rw [hL]
  obtain ⟨R, hR⟩ : ∃ R, (if S.down = true then [] else L) = R := ⟨_, rfl⟩
  rw [hR]
  have HR0 := Lib.hid hR
  clear hL hxr h hR
  cases la with
  | true =>
    obtain ⟨rfl, hn, rfl⟩ : ta = xa ∧ S.last.length = L.length ∧ tc = xc := by simpa using hxv
    rw [hn] at c2
    clear hxv hn
    go_enter Try.func45, Try.ntmps45
    go_wp2_with fail
    go_loopw [5, 7] (fun o i wr => ∃ (k : Nat) (yv : Value), k ≤ L.length ∧ i = .int .i64 k ∧ yv = o ∧ Hid (S.down = true → k = 0) ∧ Hid (wr.ownsRow w.heap.size 9 1 yv k (txRow (L.take k))) ∧ Hid (Below w.heap.size w wr)) (fun _ i _ => L.length - (intOf i).toNat)
    case atStart => exact ⟨0, _, Nat.zero_le _, rfl, rfl, fun _ => rfl, by show World.ownsRow _ _ _ _ _ _ _; rw [List.take_zero]; exact World.ownsRow_nil _ _ _ _, Below.refl _ _⟩
    case round =>
      obtain ⟨k, yv, hk, rfl, rfl, hdn, hr, hw⟩ := hrel
      obtain ⟨wk, hwk⟩ : ∃ wk, wk = wr := ⟨_, rfl⟩
      subst hwk
      have hsz := hw.out.size
      have q6 := (HD.out.below hw.out).cells.2.2.2.2.2.2
      by_cases hlt : k < L.length
      · have hkI : (k : Int) < (L.length : Int) := by omega
        have hk0 : (0 : Int) ≤ (k : Int) := by omega
        cases hd : S.down with
        | true =>
          rw [hd] at q6
          obtain rfl := hdn.out hd
          have HE := Lib.hid hd
          clear hd hdn
          go_wp2
          go_ret
          exact ⟨_, rfl, by rw [← HR0.out, if_pos HE.out]; have := hr.out; rw [List.take_zero] at this; exact this, hw.out⟩
        | false =>
          rw [hd] at q6
          obtain ⟨p, hp⟩ : ∃ p, L[k]? = some p := ⟨_, List.getElem?_eq_getElem hlt⟩
          obtain ⟨g, rfl, hF, hg, h0, h1⟩ := (NRow.kept (show NRow w (fun k => F k ∧ k < w.heap.size) _ _ from ⟨HX.out.1, fun g hg => ⟨HX.out.2 g hg, (World.ownsRow.lt HX.out.1 g hg).2⟩⟩) (Wr.of_below (F := fun _ => False) hw.out) (fun _ _ h => h)).at_ hp
          have HT := Lib.hid (txRow_take hp)
          have HE := Lib.hid hd
          clear hp hd hdn
          go_wp2_with (at_builtin; refine wpList_append_text wk rfl (.tmp 30) (.tmp 36) rfl w.heap.size yv k (txRow (L.take k)) rfl hr.out (.string (str p.1)) rfl (by simp [Act.eval]) (by unfold maxLen; omega) (by omega) hsz ?_)
          intro v2 w2 hown2 hB2
          have HO := Lib.hid hown2
          have HB := Lib.hid (hB2 w _ hw.out (Nat.le_refl _))
          clear hown2 hB2
          go_wp2
          go_roundw
          case rel => exact ⟨k + 1, _, by omega, by go_num, rfl, Lib.hid (fun h => absurd h (by decide)), by show World.ownsRow _ _ _ _ _ _ _; rw [HT.out]; exact HO.out, HB.out⟩
          case measure => simp [intOf]; omega
      · obtain rfl : k = L.length := by omega
        have HR := Lib.hid (show wk.ownsRow w.heap.size 9 1 yv R.length (txRow R) from by
          rw [← HR0.out]
          have hh := hr.out
          rw [List.take_length] at hh
          cases hd : S.down with
          | true =>
            have h0 := hdn.out hd
            have hn : L = [] := List.eq_nil_of_length_eq_zero h0
            rw [if_pos rfl]
            rw [hn] at hh; exact hh
          | false => rw [if_neg (by simp)]; exact hh)
        clear hdn
        go_wp2
        go_ret
        exact ⟨_, rfl, HR.out, hw.out⟩
  | false =>
    obtain ⟨rfl, hn, rfl⟩ : na = xa ∧ S.names.length = L.length ∧ nc = xc := by simpa using hxv
    rw [hn] at c1
    clear hxv hn
    go_enter Try.func45, Try.ntmps45
    go_wp2_with fail
    go_loopw [5, 7] (fun o i wr => ∃ (k : Nat) (yv : Value), k ≤ L.length ∧ i = .int .i64 k ∧ yv = o ∧ Hid (S.down = true → k = 0) ∧ Hid (wr.ownsRow w.heap.size 9 1 yv k (txRow (L.take k))) ∧ Hid (Below w.heap.size w wr)) (fun _ i _ => L.length - (intOf i).toNat)
    case atStart => exact ⟨0, _, Nat.zero_le _, rfl, rfl, fun _ => rfl, by show World.ownsRow _ _ _ _ _ _ _; rw [List.take_zero]; exact World.ownsRow_nil _ _ _ _, Below.refl _ _⟩
    case round =>
      obtain ⟨k, yv, hk, rfl, rfl, hdn, hr, hw⟩ := hrel
      obtain ⟨wk, hwk⟩ : ∃ wk, wk = wr := ⟨_, rfl⟩
      subst hwk
      have hsz := hw.out.size
      have q6 := (HD.out.below hw.out).cells.2.2.2.2.2.2
      by_cases hlt : k < L.length
      · have hkI : (k : Int) < (L.length : Int) := by omega
        have hk0 : (0 : Int) ≤ (k : Int) := by omega
        cases hd : S.down with
        | true =>
          rw [hd] at q6
          obtain rfl := hdn.out hd
          have HE := Lib.hid hd
          clear hd hdn
          go_wp2
          go_ret
          exact ⟨_, rfl, by rw [← HR0.out, if_pos HE.out]; have := hr.out; rw [List.take_zero] at this; exact this, hw.out⟩
        | false =>
          rw [hd] at q6
          obtain ⟨p, hp⟩ : ∃ p, L[k]? = some p := ⟨_, List.getElem?_eq_getElem hlt⟩
          obtain ⟨g, rfl, hF, hg, h0, h1⟩ := (NRow.kept (show NRow w (fun k => F k ∧ k < w.heap.size) _ _ from ⟨HX.out.1, fun g hg => ⟨HX.out.2 g hg, (World.ownsRow.lt HX.out.1 g hg).2⟩⟩) (Wr.of_below (F := fun _ => False) hw.out) (fun _ _ h => h)).at_ hp
          have HT := Lib.hid (txRow_take hp)
          have HE := Lib.hid hd
          clear hp hd hdn
          go_wp2_with (at_builtin; refine wpList_append_text wk rfl (.tmp 30) (.tmp 36) rfl w.heap.size yv k (txRow (L.take k)) rfl hr.out (.string (str p.1)) rfl (by simp [Act.eval]) (by unfold maxLen; omega) (by omega) hsz ?_)
          intro v2 w2 hown2 hB2
          have HO := Lib.hid hown2
          have HB := Lib.hid (hB2 w _ hw.out (Nat.le_refl _))
          clear hown2 hB2
          go_wp2
          go_roundw
          case rel => exact ⟨k + 1, _, by omega, by go_num, rfl, Lib.hid (fun h => absurd h (by decide)), by show World.ownsRow _ _ _ _ _ _ _; rw [HT.out]; exact HO.out, HB.out⟩
          case measure => simp [intOf]; omega
      · obtain rfl : k = L.length := by omega
        have HR := Lib.hid (show wk.ownsRow w.heap.size 9 1 yv R.length (txRow R) from by
          rw [← HR0.out]
          have hh := hr.out
          rw [List.take_length] at hh
          cases hd : S.down with
          | true =>
            have h0 := hdn.out hd
            have hn : L = [] := List.eq_nil_of_length_eq_zero h0
            rw [if_pos rfl]
            rw [hn] at hh; exact hh
          | false => rw [if_neg (by simp)]; exact hh)
        clear hdn
        go_wp2
        go_ret
        exact ⟨_, rfl, HR.out, hw.out⟩
end Go.Proofs.Ytbjlffhnkcbnmaa
