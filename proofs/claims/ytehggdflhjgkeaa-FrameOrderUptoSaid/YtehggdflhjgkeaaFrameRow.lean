/- The function row: groups with these bodies from a number on, their bytes and their row. -/
import Derived.Test.YtehggdflhjgkeaaFrameScansW
import Derived.Test.YtehggdflhjgkeaaFrameBackW
import Derived.Test.YtehggdflhjgkeaaPlainRow
import Derived.Test.YtehggdflhjgkeaaStrs
namespace Go.Proofs.Ytehggdflhjgkeaa
open Go.ChangeShapes Go.WideShapes Go.ChangeAt Go.RowKit
set_option linter.unusedVariables false

abbrev lists (bs : List ByteArray) : List (List UInt8) := bs.map fun b => b.data.toList
theorem lists_take (bs : List ByteArray) (k : Nat) (h : k < bs.length) : lists (bs.take (k + 1)) = lists (bs.take k) ++ [bs[k].data.toList] := by
  unfold lists; rw [List.take_succ_eq_append_getElem h, List.map_append]; rfl
/-- The groups, their bytes. -/
def rowG (f : Nat) (bs : List ByteArray) (k : Nat) : List Pl.Grp := Pl.grps f (lists (bs.take k))
def rowB (f : Nat) (bs : List ByteArray) (k : Nat) : ByteArray := str (Pl.encAll (rowG f bs k))
theorem rowG_length (f : Nat) (bs : List ByteArray) (k : Nat) (h : k ≤ bs.length) : (rowG f bs k).length = k := by
  unfold rowG lists; rw [Pl.grps_length]; simp; omega
theorem rowG_succ (f : Nat) (bs : List ByteArray) (k : Nat) (h : k < bs.length) : rowG f bs (k + 1) = rowG f bs k ++ [(f + k, bs[k].data.toList)] := by
  unfold rowG; rw [lists_take bs k h, Pl.grps_snoc]; simp; omega
theorem rowB_succ (f : Nat) (bs : List ByteArray) (k : Nat) (h : k < bs.length) : rowB f bs (k + 1) = rowB f bs k ++ str (Pl.encL (f + k) bs[k].data.toList) := by
  unfold rowB
  rw [rowG_succ f bs k h, Pl.encAll_snoc]
  apply ba_ext
  rw [toList_append, str_toList, str_toList, str_toList]
theorem sum_lists (bs : List ByteArray) : ((lists bs).map List.length).sum + bs.length = bulkS bs := by
  induction bs with
  | nil => rfl
  | cons b l ih => simp [bulkS, lists] at ih ⊢; omega
theorem rowB_size (f : Nat) (bs : List ByteArray) (k : Nat) (h : k ≤ bs.length) : (rowB f bs k).size ≤ 25 * bulkS bs := by
  unfold rowB rowG
  rw [str_size, Pl.encAll_length]
  have h1 := sum_lists (bs.take k)
  have h2 : bulkS bs = bulkS (bs.take k) + bulkS (bs.drop k) := by rw [← bulkS_append, List.take_append_drop]
  have h3 : (lists (bs.take k)).length = (bs.take k).length := by simp
  omega

set_option maxHeartbeats 4000000 in
theorem row_any (f : Nat) (v : Value) (bs : List ByteArray) (hf : f ≠ 0) (hfl : f + bs.length ≤ 18446744073709551615) (hbs : bulkS bs ≤ 1048576) (w : World) (hs : SRow w v bs) :
    Calls Try.prog 22 #[.int .u64 f, v] w fun e w' => (∃ v2, e = .returned (.tuple #[.string (rowB f bs bs.length), v2, .bool true]) ∧ GRow w' w.heap.size v2 (rowG f bs bs.length)) ∧ Below w.heap.size w w' := by
  obtain ⟨ao, cp, rfl, hs⟩ := hs
  have HS := Lib.hid hs
  clear hs
  have hlen := bulkS_length bs
  go_enter Try.func22, Try.ntmps22
  go_wp2_with fail
  go_loopw [7, 8, 9] (fun s l i wr => ∃ (k : Nat) (ao : Option Addr) (cp : Nat), k ≤ bs.length ∧ s = .string (rowB f bs k) ∧ l = .slice ao k cp ∧ i = .int .i64 k ∧ Hid (GRow wr w.heap.size (.slice ao k cp) (rowG f bs k)) ∧ Hid (Below w.heap.size w wr)) (fun _ _ i _ => bs.length - (intOf i).toNat)
  case atStart => exact ⟨0, none, 0, Nat.zero_le _, rfl, rfl, rfl, World.ownsRow_nil _ _ _ _, Below.refl _ _⟩
  case round =>
    obtain ⟨k, a2, c2, hk, rfl, rfl, rfl, hrow, hbel⟩ := hrel
    by_cases hlt : k < bs.length
    · obtain ⟨b, hb⟩ : ∃ b, bs[k]? = some b := ⟨bs[k], List.getElem?_eq_getElem hlt⟩
      have hbe : bs[k] = b := by rw [List.getElem?_eq_getElem hlt] at hb; exact Option.some.inj hb
      rcases HS.out with rfl | ⟨g, off, rfl, hg, hc⟩
      · simp at hlt
      have hcell := (hbel.out.cell (p := ⟨g, off + k, none⟩) hg).trans (hc k b hb)
      have hbm := bulkS_mem (bs := bs) (b := b) (List.mem_of_getElem? hb)
      have hbz : b.size ≤ 1073741824 := by omega
      have hrs := rowB_size f bs k hk
      have hsucc := rowB_succ f bs k hlt
      have hgsucc := rowG_succ f bs k hlt
      rw [hbe] at hsucc hgsucc
      have hgl := rowG_length f bs k hk
      generalize rowB f bs k = S at hsucc hrs ⊢
      obtain ⟨E, hE⟩ : ∃ E, str (Pl.encL (f + k) b.data.toList) = E := ⟨_, rfl⟩
      rw [hE] at hsucc
      have HE := Lib.hid hE
      have hEs := enc_size hE
      have hcat := fun W => run_string_add_sum (P := Try.prog) W S E (by omega)
      have HSU := Lib.hid hsucc
      have HG := Lib.hid hgsucc
      have HGL := Lib.hid hgl
      have hfk : f + k ≤ 18446744073709551615 := by omega
      have hwr : IntKind.u64.wrap (k : Int) = (k : Int) := by unfold IntKind.wrap; simp [IntKind.signed, IntKind.bits]; omega
      have hn0 : (((f + k : Nat) : Int) == 0) = false := by rw [beq_eq_false_iff_ne]; omega
      have henc := fun W => enc_okE hE hfk hn0 hbz W
      simp only [Int.natCast_add] at henc
      have Henc := Lib.hid henc
      clear hE hEs hbe hb hbm hc hsucc hgsucc hgl hn0 henc
      go_wp2_with fail
      obtain ⟨wb, hwb, hw, hl, k0, k1, _, _⟩ := box2 wr (.int .u64 ((f : Int) + (k : Int))) (.string b) 24
      rw [hwb]
      have Hwb := Lib.hid hwb
      clear hwb
      refine (Henc.out _).mono ?_
      rintro e w1 ⟨rfl, b1⟩
      have p0 := k0 _ b1
      have p1 := k1 _ b1
      have hrow1 := (hrow.out.kept hw (Nat.le_refl _)).kept b1 (Nat.le_refl _)
      have hbel1 := (hbel.out.trans (hw.mono hbel.out.size)).trans (b1.mono (Nat.le_trans hbel.out.size hw.size))
      have hrowq : Hid (w1.ownsRow w.heap.size 24 2 (.slice a2 k c2) k (cellsG (rowG f bs k))) := by
        unfold GRow at hrow1; rw [HGL.out] at hrow1; exact hrow1
      have hlb := Lib.hid hbel1
      have hbs2 := hbel1.size
      clear k0 k1 hrow1 hw hl b1 hbel1 hcell
      go_wp2_with (first | (at_builtin; refine wpList_append_two _ rfl (.tmp 44) (.tmp 46) 43 rfl w.heap.size 24 (.agg #[.int .u64 0, .string ⟨#[]⟩]) 24 Try.underlying43 infoG rfl (.slice a2 _ c2) _ _ rfl hrowq.out _ _ rfl rfl rfl (by unfold maxLen; omega) (by omega) hbs2 ?_; intro v' w2 hown2 hg2 hB2))
      have hrow2 : GRow w2 w.heap.size v' (rowG f bs (k + 1)) := by unfold GRow; rw [HG.out, List.length_append, HGL.out, cellsG_snoc]; exact hown2
      obtain ⟨ao2, cp2, rfl⟩ := hrow2.shape
      have hbel2 := hB2 w _ hlb.out (Nat.le_refl _)
      have hl2 : (rowG f bs (k + 1)).length = k + 1 := rowG_length f bs (k + 1) (by omega)
      rw [hl2] at hrow2
      clear hown2 hg2 hB2 hrowq p0 p1
      have HL2 := Lib.hid hl2
      clear hl2
      go_wp2
      go_roundw
      case rel => exact ⟨k + 1, ao2, cp2, by omega, by rw [HSU.out], by rw [HL2.out], by go_num, hrow2, hbel2⟩
      case measure => simp [intOf]; omega
    · have hk2 : k = bs.length := by omega
      subst hk2
      go_wp2
      go_ret3
      exact ⟨⟨_, rfl, hrow.out⟩, hbel.out⟩

end Go.Proofs.Ytehggdflhjgkeaa
