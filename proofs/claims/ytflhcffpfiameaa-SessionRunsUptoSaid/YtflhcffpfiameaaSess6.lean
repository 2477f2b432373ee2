/- The walks of the session laws: awake. -/
import Derived.Test.YtflhcffpfiameaaSess5
import Derived.Test.YtflhcffpfiameaaLRow
namespace Go.Proofs.Ytflhcffpfiameaa
open Go.ChangeShapes Go.WideShapes Go.ChangeAt Go.RowKit Go.Maps
set_option linter.unusedVariables false

/-- A row of texts laid at once. -/
theorem srow_laid {w : World} {g : Nat} {bs : List ByteArray} {e : TypeId} {fz : Nat × Nat} {n cp : Nat} (h : w.heap[g]? = some (.cells (bs.map Value.string).toArray e fz)) (hn : n = bs.length) : SRow w (.slice (some ⟨g, 0, none⟩) n cp) bs := by
  subst hn
  refine ⟨_, cp, rfl, .inr ⟨g, 0, rfl, (Array.getElem?_eq_some_iff.1 h).1, fun j x hx => ?_⟩⟩
  simp [World.cell?, h, hx]
/-- What a method has made of a session that the call owns. -/
structure Mine (w : World) (B : Nat) (b : Nat) (F : Nat → Prop) (S : SessM) : Prop where
  at_ : Sess w b F S
  from_ : ∀ k, F k → B ≤ k
theorem Mine.next {w w' : World} {B b : Nat} {F F' : Nat → Prop} {S S' : SessM} (h : Mine w B b F S) (hs : Sess w' b F' S') (hg : Grew w F F') (hB : B ≤ w.heap.size) : Mine w' B b F' S' :=
  ⟨hs, fun k hk => (hg k hk).elim (h.from_ k) (fun h2 => Nat.le_trans hB h2)⟩
theorem Mine.below {w w' : World} {B b : Nat} {F : Nat → Prop} {S : SessM} (h : Mine w B b F S) (hw : Below w.heap.size w w') : Mine w' B b F S := ⟨h.at_.below hw, h.from_⟩

theorem small_two {a b : ByteArray} (ha : a.size ≤ 100) (hb : b.size ≤ 100) : ∀ x ∈ [a, b], x.size ≤ maxLen := by
  intro x hx
  simp at hx
  unfold maxLen
  rcases hx with rfl | rfl <;> omega
def awS1 : SessM := { SessM.new 1 with keys := [[97], [98]] }
def awS2 : SessM := { awS1 with multi := true }
def awS3 : SessM := { awS2 with queue := [[[71, 69, 84], [97]]] }
theorem aw1 : (SessM.new 1).watch [⟨#[97]⟩, ⟨#[98]⟩] = awS1 := by rfl
theorem aw1r : (SessM.new 1).watchR [⟨#[97]⟩, ⟨#[98]⟩] = replyV 1 ⟨#[79, 75]⟩ := by rfl
set_option maxHeartbeats 3200000 in
theorem awake_any (w : World) : Calls Try.prog 9 #[] w fun e w' => e = .returned (.bool true) ∧ Below w.heap.size w w' := by
  go_enter Try.func9, Try.ntmps9
  go_wp2_with fail
  ((refine (new_any 1 (by omega) (by omega) _).mono ?_); rintro e w1 ⟨b, F1, rfl, s1, l1, b1⟩)
  have M1 := Lib.hid (Mine.mk s1 l1)
  clear s1 l1
  go_wp2_with fail
  ((refine (watch_go (M1.out.at_.below ((Below.refl _ _).alloc (Nat.le_refl _) _)) _ [⟨#[97]⟩, ⟨#[98]⟩] (srow_laid (heap_alloc_new _ _) rfl) (small_two (by decide) (by decide)) (by simp) rfl).mono ?_); rintro e w2 ⟨rfl, F2, s2, g2, r2⟩)
  rw [aw1r]
  rw [aw1] at s2
  have b2 : Below w.heap.size w w2 := (b1.alloc b1.size _).trans (r2.below M1.out.from_ (by have := b1.size; simp; omega))
  have M2 := Lib.hid ((M1.out.below ((Below.refl _ _).alloc (Nat.le_refl _) _)).next s2 g2 (by have := b1.size; simp; omega))
  clear s2 g2 r2 M1 b1
  go_wp2_with fail
  ((with_reducible refine (begin_yes M2.out.at_ rfl).mono ?_); rintro e w3 ⟨rfl, s3, r3⟩)
  have b3 : Below w.heap.size w w3 := b2.trans (r3.below M2.out.from_ b2.size)
  have M3 := Lib.hid (M2.out.next (S' := awS2) s3 (Grew.refl _ _) b2.size)
  clear s3 r3 M2 b2
  go_wp2_with fail
  ((refine (queue_go (M3.out.at_.below ((Below.refl _ _).alloc (Nat.le_refl _) _)) _ [⟨#[71, 69, 84]⟩, ⟨#[97]⟩] (srow_laid (heap_alloc_new _ _) rfl) (by simp) rfl (by decide)).mono ?_); rintro e w4 ⟨rfl, F4, s4, g4, r4⟩)
  have b4 : Below w.heap.size w w4 := (b3.alloc b3.size _).trans (r4.below M3.out.from_ (by have := b3.size; simp; omega))
  have M4 := Lib.hid ((M3.out.below ((Below.refl _ _).alloc (Nat.le_refl _) _)).next (S' := awS3) s4 g4 (by have := b3.size; simp; omega))
  clear s4 g4 r4 M3 b3
  go_wp2_with fail
  ((refine (queue_full (M4.out.at_.below ((Below.refl _ _).alloc (Nat.le_refl _) _)) _ rfl rfl).mono ?_); rintro e w5 ⟨rfl, s5, r5⟩)
  have b5 : Below w.heap.size w w5 := (b4.alloc b4.size _).trans (r5.below M4.out.from_ (by have := b4.size; simp; omega))
  have M5 := Lib.hid (Mine.mk (S := { awS3 with refused := true }) s5 M4.out.from_)
  clear s5 r5 M4 b4
  go_wp2_with fail
  ((refine (refused_any (M5.out.at_.below (((((Below.refl _ _).alloc (Nat.le_refl _) _).alloc (by simp) _).alloc (by simp; omega) _).alloc (by simp; omega) _))).mono ?_); rintro e w6 ⟨rfl, rfl⟩)
  go_wp2_with fail
  ((refine (multi_any (M5.out.at_.below (((((Below.refl _ _).alloc (Nat.le_refl _) _).alloc (by simp) _).alloc (by simp; omega) _).alloc (by simp; omega) _))).mono ?_); rintro e w6 ⟨rfl, rfl⟩)
  go_wp2_with fail
  go_ret
  refine ⟨rfl, (((b5.alloc b5.size _).alloc ?_ _).alloc ?_ _).alloc ?_ _⟩ <;> (have := b5.size; simp; omega)
end Go.Proofs.Ytflhcffpfiameaa
