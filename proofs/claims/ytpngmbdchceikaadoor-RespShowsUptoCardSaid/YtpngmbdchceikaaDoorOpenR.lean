/- A reply argument, from its reading. -/
import Derived.Test.YtpngmbdchceikaaDoorEnc
import Derived.Test.YtpngmbdchceikaaDoorPlainResp3
import Derived.Test.YtpngmbdchceikaaDoorRows
import Derived.OpenShut
import Derived.ChangeArms
import Derived.ChangeOld
import Derived.DataReads
namespace Go.Proofs.YtpngmbdchceikaaDoor
open Go.ChangeShapes Go.WideShapes Go.ChangeAt Go.RowKit
open Pl (R Rd)
set_option linter.unusedVariables false

theorem enc_size (r : R) (hn1 : -9223372036854775808 ≤ r.n) (hn2 : r.n ≤ 9223372036854775807) (ht : r.t.length ≤ 1073741824) (hl : r.l.length ≤ 1073741824) (m : Nat) (hm : ∀ d, (r.l.flatMap (Pl.encL d)).length ≤ m) (d : Nat) : (Pl.encL d r).length ≤ 30 + r.t.length + m := by
  have h1 := itoa_short r.n hn1 hn2
  have h2 := itoa_short (r.t.length : Int) (by omega) (by omega)
  have h3 := itoa_short (r.l.length : Int) (by omega) (by omega)
  rw [Pl.encL.eq_def]
  cases d with
  | zero =>
    simp only
    repeat' split
    all_goals simp only [List.length_cons, List.length_append, List.length_nil, Pl.crlf]; omega
  | succ d =>
    have := hm d
    simp only
    repeat' split
    all_goals simp only [List.length_cons, List.length_append, List.length_nil, Pl.crlf]; omega
section
variable {H : Type} {enc : TypeId × Value → H} {W : World} {sp : Nat → Bool}
theorem bulk_len (l : List (DataW H)) : l.length ≤ Rows.uptoBulkAll l := by
  induction l with
  | nil => simp
  | cons d l ih =>
    have : 1 ≤ Rows.uptoBulk d := by
      cases d with
      | lit x => cases x <;> simp [Rows.uptoBulk]
      | nil => simp [Rows.uptoBulk]
      | ptr d => simp [Rows.uptoBulk]
      | slice a b => simp [Rows.uptoBulk]
      | agg a => simp [Rows.uptoBulk]
      | iface a b => simp [Rows.uptoBulk]
      | map a => simp [Rows.uptoBulk]
      | held a => simp [Rows.uptoBulk]
    simp only [Rows.uptoBulkAll, List.length_cons]
    omega
theorem bulk_of {l : List (DataW H)} {d : DataW H} (h : d ∈ l) : Rows.uptoBulk d ≤ Rows.uptoBulkAll l := by
  induction l with
  | nil => cases h
  | cons e l ih =>
    simp only [Rows.uptoBulkAll]
    rcases List.mem_cons.1 h with rfl | h
    · omega
    · have := ih h; omega
theorem flat_bulk {f : R → List UInt8} : ∀ {l : List R} {ds : List (DataW H)}, l.length = ds.length → (∀ (j : Nat) (r : R) (d : DataW H), l[j]? = some r → ds[j]? = some d → (f r).length ≤ 64 * Rows.uptoBulk d) → (l.flatMap f).length ≤ 64 * Rows.uptoBulkAll ds
  | [], [], _, _ => by simp
  | r :: l, d :: ds, h, hf => by
    have h1 := hf 0 r d rfl rfl
    have h2 := flat_bulk (l := l) (ds := ds) (by simpa using h) (fun j r d hr hd => hf (j + 1) r d (by simpa using hr) (by simpa using hd))
    simp only [List.flatMap_cons, List.length_append, Rows.uptoBulkAll]
    omega
set_option maxRecDepth 100000 in
theorem open_reply : ∀ (fuel : Nat) (cs : List Value) (x : DataW H × List MemPlace), DataW.trod enc Tryd.prog W 0 sp true fuel 24 cs = some x → Rows.uptoBulk x.1 ≤ 1048576 →
    ∃ r lv, cs = [.int .i64 r.k, .string (str r.t), .int .i64 r.n, lv] ∧ OkR r ∧ LIs (fun _ => True) W lv r.l ∧ ∀ d, (Pl.encL d r).length ≤ 64 * Rows.uptoBulk x.1 := by
  intro fuel
  induction fuel using Nat.strongRecOn with
  | _ fuel ih =>
    intro cs x h hb
    obtain ⟨xs, n, rfl, rfl, hl, hlen, hf⟩ := DataW.trod_struct Tryd.underlying24 h
    match xs, hlen with
    | [y0, y1, y2, y3], _ =>
    have f0 : DataW.trod enc Tryd.prog W 0 sp true n 3 ((cs.drop 0).take 1) = some y0 := hf 0 _ rfl
    have f1 : DataW.trod enc Tryd.prog W 0 sp true n 9 ((cs.drop 1).take 1) = some y1 := hf 1 _ rfl
    have f2 : DataW.trod enc Tryd.prog W 0 sp true n 3 ((cs.drop 2).take 1) = some y2 := hf 2 _ rfl
    have f3 : DataW.trod enc Tryd.prog W 0 sp true n 22 ((cs.drop 3).take 1) = some y3 := hf 3 _ rfl
    have hl4 : cs.length = 4 := hl.trans (by kernel_rfl)
    match cs, hl4 with
    | [c0, c1, c2, c3], _ =>
    simp only [List.drop_zero, List.drop_succ_cons, List.take_succ_cons, List.take_zero] at f0 f1 f2 f3
    obtain ⟨k, e0, rfl, wk⟩ := DataW.trod_int Tryd.underlying3 f0
    obtain ⟨t, e1, rfl, wt⟩ := DataW.trod_string Tryd.underlying9 f1
    obtain ⟨m, e2, rfl, wm⟩ := DataW.trod_int Tryd.underlying3 f2
    obtain rfl : c0 = .int .i64 k := by simpa using e0
    obtain rfl : c1 = .string t := by simpa using e1
    obtain rfl : c2 = .int .i64 m := by simpa using e2
    obtain ⟨m1, m2⟩ := bounds_i64 wm
    have hbb : Rows.uptoBulk (DataW.agg (([(DataW.lit (.int .i64 k), ([] : List MemPlace)), (DataW.lit (.string t.data.toList), []), (DataW.lit (.int .i64 m), []), y3] : List (DataW H × List MemPlace)).map (·.1))) = t.size + Rows.uptoBulk y3.1 + 4 := by
      simp only [List.map_cons, List.map_nil, Rows.uptoBulk, Rows.uptoBulkAll]
      have : t.data.toList.length = t.size := by simp
      omega
    rw [hbb] at hb ⊢
    rcases DataW.trod_slice Tryd.underlying22 f3 with ⟨e3, rfl⟩ | ⟨a, len, cap, elems, rest, n', rfl, e3, rfl, _, hlc, hcm, hel, hat, _, _⟩
    · obtain rfl : c3 = .slice none 0 0 := by simpa using e3
      refine ⟨.mk k t.data.toList m [], .slice none 0 0, by simp [R.k, R.t, R.n, str_of], ⟨m1, m2, by simp [R.t]; omega, by simp [R.l]⟩, .nil _ _, fun d => ?_⟩
      have := enc_size (.mk k t.data.toList m []) m1 m2 (by simp [R.t]; omega) (by simp [R.l]) 0 (fun d => by simp [R.l]) d
      simp only [R.t] at this
      have ht : t.data.toList.length = t.size := by simp
      omega
    · obtain rfl : c3 = .slice (some a) len cap := by simpa using e3
      simp only [Rows.uptoBulk] at hb ⊢
      have hbl := bulk_len (elems.map (·.1))
      rw [List.length_map, hel] at hbl
      -- each element
      have hev : ∀ j, j < len → ∃ (y : DataW H × List MemPlace) (r : R) (lv : Value), elems[j]? = some y ∧ W.cells? 0 (a.add (j * 4)) 4 = some [.int .i64 r.k, .string (str r.t), .int .i64 r.n, lv] ∧ OkR r ∧ LIs (fun _ => True) W lv r.l ∧ ∀ d, (Pl.encL d r).length ≤ 64 * Rows.uptoBulk y.1 := by
        intro j hj
        obtain ⟨y, hy⟩ : ∃ y, elems[j]? = some y := ⟨_, List.getElem?_eq_getElem (by omega)⟩
        have h1 := hat j hj
        rw [hy] at h1
        obtain ⟨cs', h2, h3⟩ := Option.bind_eq_some_iff.1 h1
        have hby := bulk_of (List.mem_map.2 ⟨y, List.mem_of_getElem? hy, rfl⟩ : y.1 ∈ elems.map (·.1))
        obtain ⟨r, lv, e, o1, o2, o3⟩ := ih n' (by omega) cs' y h3 (by omega)
        subst e
        exact ⟨y, r, lv, hy, h2, o1, o2, o3⟩
      have hev' : ∀ j, ∃ p : (DataW H × List MemPlace) × R × Value, j < len → elems[j]? = some p.1 ∧ W.cells? 0 (a.add (j * 4)) 4 = some [.int .i64 p.2.1.k, .string (str p.2.1.t), .int .i64 p.2.1.n, p.2.2] ∧ OkR p.2.1 ∧ LIs (fun _ => True) W p.2.2 p.2.1.l ∧ ∀ d, (Pl.encL d p.2.1).length ≤ 64 * Rows.uptoBulk p.1.1 := by
        intro j
        by_cases hj : j < len
        · obtain ⟨y, r, lv, h⟩ := hev j hj
          exact ⟨(y, r, lv), fun _ => h⟩
        · exact ⟨((.nil, []), .mk 0 [] 0 [], undef), fun h => absurd h hj⟩
      obtain ⟨fp, hfp⟩ := Classical.axiomOfChoice hev'
      have hlen2 : ((List.range len).map fun j => (fp j).2.1).length = len := by simp
      have hget : ∀ j r, ((List.range len).map fun j => (fp j).2.1)[j]? = some r → j < len ∧ r = (fp j).2.1 := by
        intro j r hr
        have hj : j < len := by
          have := (List.getElem?_eq_some_iff.1 hr).1
          simpa using this
        refine ⟨hj, ?_⟩
        simp [hj] at hr
        exact hr.symm
      have hLI : LIs (fun _ => True) W (.slice (some a) len cap) ((List.range len).map fun j => (fp j).2.1) := by
        by_cases h0 : len = 0
        · subst h0; exact .nil _ _
        · obtain ⟨g, off, spot⟩ := a
          have hc0 := (World.cells?_some (hfp 0 (by omega)).2.1).2.2
          have hspot : spot = none := by
            have := hc0 0 (by omega)
            simpa [Addr.add] using World.cell?_spot this
          subst hspot
          have hg : g < W.heap.size := by
            have := World.cells?_block (hfp 0 (by omega)).2.1 (by omega)
            simpa [add_plain] using this
          have := LIs.row (F := fun _ => True) (w := W) g off cap ((List.range len).map fun j => (fp j).2.1) (fun j => (fp j).2.2) trivial hg (fun j r hr => by
            obtain ⟨hj, rfl⟩ := hget j r hr
            obtain ⟨-, h2, h3, -, -⟩ := hfp j hj
            have hcc := (World.cells?_some h2).2.2
            have c0 := hcc 0 (by omega)
            have c1 := hcc 1 (by omega)
            have c2 := hcc 2 (by omega)
            have c3 := hcc 3 (by omega)
            rw [add_plain, add_plain] at c0 c1 c2 c3
            exact ⟨h3, c0, c1, c2, c3⟩) (fun j r hr => by
            obtain ⟨hj, rfl⟩ := hget j r hr
            exact (hfp j hj).2.2.2.1)
          rw [hlen2] at this
          exact this
      have hfl : ∀ d, (((List.range len).map fun j => (fp j).2.1).flatMap (Pl.encL d)).length ≤ 64 * Rows.uptoBulkAll (elems.map (·.1)) := fun d =>
        flat_bulk (by simp [hel]) (fun j r dd hr hd => by
          obtain ⟨hj, rfl⟩ := hget j r hr
          obtain ⟨h1, -, -, -, h5⟩ := hfp j hj
          rw [List.getElem?_map, h1] at hd
          simp only [Option.map_some, Option.some.injEq] at hd
          rw [← hd]
          exact h5 d)
      have htl : t.data.toList.length = t.size := by simp
      refine ⟨.mk k t.data.toList m ((List.range len).map fun j => (fp j).2.1), .slice (some a) len cap, by simp [R.k, R.t, R.n, str_of], ⟨m1, m2, by simp only [R.t]; omega, by simp only [R.l]; omega⟩, hLI, fun d => ?_⟩
      have := enc_size (.mk k t.data.toList m ((List.range len).map fun j => (fp j).2.1)) m1 m2 (by simp only [R.t]; omega) (by simp only [R.l]; omega) _ hfl d
      simp only [R.t] at this
      omega
end
end Go.Proofs.YtpngmbdchceikaaDoor
