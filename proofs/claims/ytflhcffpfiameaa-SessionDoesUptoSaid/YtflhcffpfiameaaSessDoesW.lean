/- The walk of SessionDoes. -/
import Derived.Test.YtflhcffpfiameaaSess20
import Derived.Test.YtflhcffpfiameaaDeeds
namespace Go.Proofs.Ytflhcffpfiameaa
open Go.ChangeShapes Go.WideShapes Go.ChangeAt Go.RowKit Go.Maps
set_option linter.unusedVariables false

/-- Both sessions stand, behind some deeds. -/
def Both (B m b x : Nat) (w : World) : Prop := ∃ F G S, Pair B w b x F G S ∧ S.places = m
theorem Both.below {B m b x : Nat} {w w' : World} (h : Both B m b x w) (hb : Below w.heap.size w w') : Both B m b x w' := by
  obtain ⟨F, G, S, h1, h2⟩ := h; exact ⟨F, G, S, h1.below hb, h2⟩
theorem Both.start {m b x : Nat} {F G : Nat → Prop} {w w1 w2 : World} (s1 : Sess w1 b F (.new m)) (l1 : ∀ k, F k → w.heap.size ≤ k) (b1 : Below w.heap.size w w1) (s2 : RSess w2 x G (.new m)) (l2 : ∀ k, G k → w1.heap.size ≤ k) (b2 : Below w1.heap.size w1 w2) :
    Both w.heap.size m b x w2 ∧ Below w.heap.size w w2 :=
  ⟨⟨F, G, .new m, ⟨s1.below b2, s2, fun k hf hg => by have := s1.lt k hf; have := l2 k hg; omega, l1, fun k hg => Nat.le_trans b1.size (l2 k hg), fun r hr => by simp [SessM.new] at hr, Nat.le_trans b1.size b2.size⟩, rfl⟩, b1.trans (b2.mono b1.size)⟩
/-- A deed and a look at both. -/
def DidEnd (B m b x : Nat) (w : World) (e : Ending) (w' : World) : Prop := e = .returned (.bool true) ∧ Both B m b x w' ∧ Below B w w'
theorem did_any {B m b x : Nat} {w : World} (h : Both B m b x w) (kd : Int) (va : Option Addr) (vc : Nat) (bs : List ByteArray) (hs : ∀ W, Below B w W → SRow W (.slice va bs.length vc) bs) (hbs : ∀ y ∈ bs, y.size ≤ maxLen) (hlen : bs.length ≤ 1048576) :
    Calls Try.prog 19 #[.pointer (some ⟨b, 0, none⟩), .pointer (some ⟨x, 0, none⟩), .agg #[.int .i64 kd, .slice va bs.length vc]] w (DidEnd B m b x w) := by
  obtain ⟨F, G, S, h1, h2⟩ := h
  refine (do_any h1 kd va vc bs hs hbs hlen).mono ?_
  rintro e w' ⟨he, F', G', S', h3, h4, h5⟩
  exact ⟨he, ⟨F', G', S', h3, h4.trans h2⟩, h5⟩
theorem like_both {B m b x : Nat} {w : World} (h : Both B m b x w) :
    Calls Try.prog 23 #[.pointer (some ⟨b, 0, none⟩), .pointer (some ⟨x, 0, none⟩)] w fun e w' => e = .returned (.bool true) ∧ Below w.heap.size w w' := by
  obtain ⟨F, G, S, h1, h2⟩ := h
  obtain ⟨f1, f2, f3, f4⟩ := h1.p.facts
  exact like_any h1.p h1.r (fun r hr => by have := h1.q r hr; omega) (by omega) f3
def DoesEnd (w : World) (e : Ending) (w' : World) : Prop := e = .returned (.bool true) ∧ Below w.heap.size w w'
set_option maxRecDepth 100000 in
set_option maxHeartbeats 3200000 in
theorem sessionDoes_good (n : Nat) (h1 : 1 ≤ n) (h2 : n ≤ 1024) (v : Value) (ds : List (Int × List ByteArray)) (hds : ∀ d ∈ ds, (∀ b ∈ d.2, b.size ≤ maxLen) ∧ d.2.length ≤ 1048576) (hlen : ds.length ≤ 1048576) (w : World) (hv : DRow w v ds) :
    Calls Try.prog 5 #[.int .i64 n, v] w (DoesEnd w) := by
  obtain ⟨ao, cp, rfl⟩ := hv.shape
  have HV := Lib.hid hv
  have HD := Lib.hid hds
  clear hv hds
  go_enter Try.func5, Try.ntmps5
  go_wp2_with fail
  ((refine (new_any n h1 h2 _).mono ?_); rintro e w1 ⟨b, F, rfl, s1, l1, b1⟩)
  have X1 := Lib.hid (And.intro s1 (And.intro l1 b1))
  clear s1 l1 b1
  go_wp2_with fail
  ((refine (rnew_any n h1 h2 _).mono ?_); rintro e w2 ⟨x, G, rfl, s2, l2, b2⟩)
  have X2 := Lib.hid (Both.start X1.out.1 X1.out.2.1 X1.out.2.2 s2 l2 b2)
  clear s2 l2 b2
  go_wp2_with fail
  ((with_reducible refine (awake_any _).mono ?_); rintro e w3 ⟨rfl, b3⟩)
  have X3 := Lib.hid (And.intro (X2.out.1.below b3) (X2.out.2.trans (b3.mono X2.out.2.size)))
  clear b3
  go_wp2_with fail
  go_loopw [9] (fun i wr => ∃ j : Nat, j ≤ ds.length ∧ i = .int .i64 j ∧ Hid (Both w.heap.size n b x wr ∧ Below w.heap.size w wr)) (fun i _ => ds.length - (intOf i).toNat)
  case atStart => exact ⟨0, Nat.zero_le _, rfl, X3.out⟩
  case round =>
    obtain ⟨j, hj, rfl, hr⟩ := hrel
    by_cases hjl : j < ds.length
    · obtain ⟨d, hd⟩ : ∃ d, ds[j]? = some d := ⟨_, List.getElem?_eq_getElem hjl⟩
      obtain ⟨g, off, va, vc, rfl, hg, p0, p1, hs⟩ := HV.out.at hd
      have c0 : wr.cell? ⟨g, off + j * 2, none⟩ = some (.int .i64 d.1) := (hr.out.2.cell (p := ⟨g, off + j * 2, none⟩) hg).trans p0
      have c1 : wr.cell? ⟨g, off + j * 2 + 1, none⟩ = some (.slice va d.2.length vc) := (hr.out.2.cell (p := ⟨g, off + j * 2 + 1, none⟩) hg).trans p1
      have hdd := HD.out d (List.mem_of_getElem? hd)
      have HE := Lib.hid (did_any hr.out.1 d.1 va vc d.2 (fun W hW => hs.kept (hr.out.2.trans hW)) hdd.1 hdd.2)
      have hjI : (j : Int) < (ds.length : Int) := by omega
      have hj0 : (0 : Int) ≤ (j : Int) := by omega
      clear hd hs hdd p0 p1 hg
      go_wp2_with fail
      ((with_reducible refine HE.out.mono ?_); rintro e w5 ⟨rfl, h5, b5⟩)
      have X5 := Lib.hid (And.intro h5 (hr.out.2.trans b5))
      clear h5 b5
      go_wp2_with fail
      ((with_reducible refine (like_both X5.out.1).mono ?_); rintro e w6 ⟨rfl, b6⟩)
      have X6 := Lib.hid (And.intro (X5.out.1.below b6) (X5.out.2.trans (b6.mono X5.out.2.size)))
      clear b6
      go_wp2
      go_roundw
      case rel => exact ⟨j + 1, by omega, by go_num, X6.out⟩
      case measure => simp [intOf]; omega
    · obtain rfl : j = ds.length := by omega
      go_wp2
      go_ret
      exact ⟨rfl, hr.out.2⟩
set_option maxRecDepth 100000 in
set_option maxHeartbeats 3200000 in
theorem sessionDoes_bad (n : Int) (h : n < 1 ∨ 1024 < n) (v : Value) (w : World) :
    Calls Try.prog 5 #[.int .i64 n, v] w (DoesEnd w) := by
  go_enter Try.func5, Try.ntmps5
  go_wp2_with fail
  ((refine (new_bad n h _).mono ?_); rintro e w1 ⟨rfl, rfl⟩)
  go_wp2_with fail
  ((refine (rnew_bad n h _).mono ?_); rintro e w2 ⟨rfl, rfl⟩)
  go_wp2_with fail
  ((with_reducible refine (awake_any _).mono ?_); rintro e w3 ⟨rfl, b3⟩)
  have X3 := Lib.hid b3
  clear b3
  go_wp2
  go_ret
  exact ⟨rfl, X3.out⟩
theorem sessionDoes_walk (n : Int) (v : Value) (ds : List (Int × List ByteArray)) (hds : ∀ d ∈ ds, (∀ b ∈ d.2, b.size ≤ maxLen) ∧ d.2.length ≤ 1048576) (hlen : ds.length ≤ 1048576) (w : World) (hv : DRow w v ds) :
    Calls Try.prog 5 #[.int .i64 n, v] w fun e w' => e = .returned (.bool true) ∧ Below w.heap.size w w' := by
  by_cases h : 1 ≤ n ∧ n ≤ 1024
  · obtain ⟨m, rfl⟩ : ∃ m : Nat, n = m := ⟨n.toNat, by omega⟩
    exact sessionDoes_good m (by omega) (by omega) v ds hds hlen w hv
  · exact sessionDoes_bad n (by omega) v w
end Go.Proofs.Ytflhcffpfiameaa
