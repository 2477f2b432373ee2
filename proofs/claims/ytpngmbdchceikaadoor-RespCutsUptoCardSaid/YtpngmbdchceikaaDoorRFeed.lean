/- Feed: the reference's. -/
import Derived.Test.YtpngmbdchceikaaDoorFeed2
namespace Go.Proofs.YtpngmbdchceikaaDoor
open Go.ChangeShapes Go.WideShapes Go.ChangeAt Go.RowKit
open Pl (R Rd)
set_option linter.unusedVariables false

/-- What the reference's Feed gives. -/
def RFeedEnd (w : World) (g : Nat) (x : List R × Option (List UInt8)) (e : Ending) (w' : World) : Prop :=
  ∃ lv, e = .returned (.tuple #[lv, .int .i64 (codeOf x.2)]) ∧ RRow w.heap.size w' lv x.1 ∧ RDecIs w' g x.2 ∧ But g w w'
set_option maxRecDepth 100000 in
set_option maxHeartbeats 3200000 in
theorem rfeed_none (g : Nat) (S : ByteArray) (w : World) (hD : RDecIs w g none) : Calls Tryd.prog 24 #[.pointer (some ⟨g, 0, none⟩), .string S] w (RFeedEnd w g ([], none)) := by
  have HD := Lib.hid hD
  unfold RDecIs at hD
  simp only [Option.getD, Option.isNone] at hD
  obtain ⟨d0, d1⟩ := hD.cells
  clear hD
  go_enter Tryd.func24, Tryd.ntmps24
  go_wp2
  go_ret2
  exact ⟨_, rfl, RRow.nil _ _, HD.out, But.refl _ _⟩
set_option maxRecDepth 100000 in
set_option maxHeartbeats 6400000 in
theorem rfeed_some (g : Nat) (h : List UInt8) (S : ByteArray) (hl : h.length + S.size ≤ 1073741824) (w : World) (hD : RDecIs w g (some h)) :
    Calls Tryd.prog 24 #[.pointer (some ⟨g, 0, none⟩), .string S] w (RFeedEnd w g (Pl.fed (h ++ S.data.toList))) := by
  unfold RDecIs at hD
  simp only [Option.getD, Option.isNone] at hD
  obtain ⟨T, hT⟩ : ∃ T, str h = T := ⟨_, rfl⟩
  have hTs : T.size = h.length := by rw [← hT, str_size]
  have hTS : T ++ S = str (h ++ S.data.toList) := by rw [← hT, ← str_of ((str h) ++ S)]; simp [str]
  rw [hT] at hD
  have hsum : T.size + S.size ≤ 1073741824 := by omega
  obtain ⟨K, hK⟩ : ∃ K, T ++ S = K := ⟨_, rfl⟩
  have D1 := Lib.hid (hD.set0 (.string K))
  have N1 := Lib.hid ((But.refl g w).set (p := ⟨g, 0, none⟩) (.inl rfl) (.string K))
  have hgw := hD.lt
  obtain ⟨L, hL⟩ : ∃ L, h ++ S.data.toList = L := ⟨_, rfl⟩
  have hKL : K.data.toList = L := by rw [← hK, hTS, hL, str_data]
  have hKs : K.size = L.length := by rw [← hKL]; simp
  have hLl : L.length ≤ 1073741824 := by rw [← hL, List.length_append]; simp; omega
  have hrd := fun q (hq : q ≤ L.length) W => refRead_any K (by omega) 8 (Nat.le_refl _) q (by omega) W
  rw [hKL] at hrd
  have HR := Lib.hid hrd
  rw [hL]
  obtain ⟨d0, d1⟩ := hD.cells
  have d3 := fun i => hD.free i
  have hdr : ∀ q, q ≤ L.length → K.extract q L.length = str (L.drop q) := fun q hq => by
    rw [← hKs, ← str_of (K.extract q K.size), sub_all, hKL]
  have HDr := Lib.hid hdr
  clear hD hT hTs hTS hL hl hKL hrd hdr
  go_enter Tryd.func24, Tryd.ntmps24
  go_wp2_with fail
  clear d0 d1 d3
  go_loopw [6, 7] (fun o at' wr => ∃ (q : Nat) (acc : List R), at' = .int .i64 q ∧ q ≤ L.length ∧ acc.length ≤ q ∧ Hid (Pl.fed L = (acc ++ (Pl.fed (L.drop q)).1, (Pl.fed (L.drop q)).2)) ∧ Hid (RRow w.heap.size wr o acc) ∧ Hid (Blk2 wr g (.string K) (.bool false)) ∧ Hid (But g w wr)) (fun _ at' _ => L.length - (intOf at').toNat)
  case atStart => exact ⟨0, [], rfl, Nat.zero_le _, Nat.zero_le _, (by show _ = _; simp), RRow.nil _ _, D1.out, N1.out⟩
  case round =>
    obtain ⟨q, acc, rfl, hq, hacc, HF, hrow, HD, HN⟩ := hrel
    have hnx := HR.out q hq wr
    unfold RdEnd at hnx
    have hwz := HN.out.size
    have hown := hrow.out.own
    obtain ⟨d0, d1⟩ := HD.out.cells
    have hqK : (q : Int) ≤ (K.size : Int) := by omega
    cases hx : Pl.rd 8 (L.drop q) with
    | bad =>
      rw [hx] at hnx
      have HX : Hid (Pl.fed L = (acc, none)) := (by show _ = _; rw [HF.out, Pl.fed_bad hx, List.append_nil])
      have HI : Hid (Calls Tryd.prog 37 #[.string K, .int .i64 q, .int .i64 8] wr fun e w' => e = .returned (.tuple #[zeroR, .int .i64 0, .int .i64 30]) ∧ Below wr.heap.size wr w') := Lib.hid hnx
      clear hnx hx
      go_wp2_with fail
      ((with_reducible refine HI.out.mono ?_); rintro e w5 ⟨rfl, b5⟩)
      have hal : ∀ o, Below w5.heap.size w5 (w5.alloc o) := fun o => (Below.refl _ _).alloc (Nat.le_refl _) _
      have R6 := Lib.hid (fun o => (hrow.out.later b5).later (hal o))
      have D6 := Lib.hid (fun o => (HD.out.later b5).alloc o)
      have N6 := Lib.hid (fun o => (HN.out.trans (.of_below b5)).alloc o)
      have e6 := fun o i => (D6.out o).free i
      have f6 := fun o => (D6.out o).cells
      obtain ⟨ao, co, rfl⟩ := hrow.out.shape
      clear b5 d0 d1 hal
      go_wp2
      go_ret2
      rw [HX.out]
      refine ⟨_, rfl, ?_, ?_, ?_⟩
      · exact ((R6.out _).set ⟨g, 1, none⟩ hgw _).set ⟨g, 0, none⟩ hgw _
      · exact ((D6.out _).set1 _).set0 _
      · exact ((N6.out _).set (.inl rfl) _).set (.inl rfl) _
    | more =>
      rw [hx] at hnx
      have HX : Hid (Pl.fed L = (acc, some (L.drop q))) := (by show _ = _; rw [HF.out, Pl.fed_more hx, List.append_nil])
      have HI : Hid (Calls Tryd.prog 37 #[.string K, .int .i64 q, .int .i64 8] wr fun e w' => e = .returned (.tuple #[zeroR, .int .i64 0, .int .i64 31]) ∧ Below wr.heap.size wr w') := Lib.hid hnx
      clear hnx hx
      go_wp2_with fail
      ((with_reducible refine HI.out.mono ?_); rintro e w5 ⟨rfl, b5⟩)
      have hal : ∀ o, Below w5.heap.size w5 (w5.alloc o) := fun o => (Below.refl _ _).alloc (Nat.le_refl _) _
      have R6 := Lib.hid (fun o => (hrow.out.later b5).later (hal o))
      have D6 := Lib.hid (fun o => (HD.out.later b5).alloc o)
      have N6 := Lib.hid (fun o => (HN.out.trans (.of_below b5)).alloc o)
      have e6 := fun o i => (D6.out o).free i
      have f6 := fun o => (D6.out o).cells
      obtain ⟨ao, co, rfl⟩ := hrow.out.shape
      clear b5 d0 d1 hal
      go_wp2
      rw [HDr.out q hq]
      go_ret2
      rw [HX.out]
      refine ⟨_, rfl, ?_, ?_, ?_⟩
      · exact (R6.out _).set ⟨g, 0, none⟩ hgw _
      · exact (D6.out _).set0 _
      · exact (N6.out _).set (.inl rfl) _
    | ok r k =>
      rw [hx] at hnx
      obtain ⟨k1, k2⟩ := ((Pl.rd_ext 8).1 _ _ _ hx).1
      obtain ⟨s1, s2, s3, s4⟩ := Pl.rd_small hx
      have hdl : (L.drop q).length = L.length - q := List.length_drop
      have hok : OkR r := ⟨s3, s4, by omega, by omega⟩
      have HX : Hid (Pl.fed L = ((acc ++ [r]) ++ (Pl.fed (L.drop (q + k))).1, (Pl.fed (L.drop (q + k))).2)) := (by show _ = _; rw [HF.out, Pl.fed_ok hx, List.drop_drop]; simp)
      have HI : Hid (Calls Tryd.prog 37 #[.string K, .int .i64 q, .int .i64 8] wr fun e w' => (∃ lv, e = .returned (.tuple #[rv r lv, .int .i64 ((q : Int) + k), .int .i64 0]) ∧ RRow wr.heap.size w' lv r.l) ∧ Below wr.heap.size wr w') := Lib.hid hnx
      clear hnx hx s1 s2 s3 s4
      go_wp2_with fail
      ((with_reducible refine HI.out.mono ?_); rintro e w5 ⟨⟨lv, rfl, r5⟩, b5⟩)
      obtain ⟨a5, c5, rfl⟩ := r5.shape
      have hz5 := b5.size
      have hal : ∀ o, Below w5.heap.size w5 (w5.alloc o) := fun o => (Below.refl _ _).alloc (Nat.le_refl _) _
      have R6 := Lib.hid (fun o => (hrow.out.later b5).later (hal o))
      have L6 := Lib.hid (fun o => r5.lis.later (hal o))
      have D6 := Lib.hid (fun o => (HD.out.later b5).alloc o)
      have N6 := Lib.hid (fun o => (HN.out.trans (.of_below b5)).alloc o)
      have hHF := Lib.hid (show ∀ b, wr.heap.size ≤ b → w.heap.size ≤ b ∧ u6.ownBlock ≠ some b from fun b hb2 => ⟨by omega, fun e => by have := (hown b e).2; omega⟩)
      have hacl : acc.length ≤ 1073741824 := by omega
      clear r5 b5 d0 d1 hal
      go_wp2_with (at_builtin; refine wpList_append_reply (w5.alloc (.cells #[.int .i64 r.k, .string (str r.t), .int .i64 r.n, .slice a5 r.l.length c5] 24)) rfl (.tmp 55) (.tmp 57) rfl w.heap.size u6 acc rfl (R6.out _) r _ _ hok rfl (L6.out _) hHF.out (by simp [Act.eval]) hacl (by simp; omega) ?_)
      intro v7 w7 hrow7 hB7 hz7 hk7
      obtain ⟨a7, c7, hv7⟩ := hrow7.shape
      rw [List.length_append] at hv7
      subst hv7
      have hgo : some g ≠ u6.ownBlock := fun e => by have := (hown g e.symm).1; omega
      have hDa := D6.out (.cells #[.int .i64 r.k, .string (str r.t), .int .i64 r.n, .slice a5 r.l.length c5] 24)
      have D7 := Lib.hid (hDa.kept (hk7 _ (by have := hDa.lt; simpa using this) hgo))
      have N7 := Lib.hid ((N6.out _).then (hB7 _ _ (Below.refl _ _) (Nat.le_refl _)))
      have R7 := Lib.hid hrow7
      clear hrow7 hB7 hk7 hDa
      go_wp2
      go_roundw
      case rel => exact ⟨q + k, acc ++ [r], by go_num, by omega, by rw [List.length_append]; simp; omega, HX, R7.out, D7.out, N7.out⟩
      case measure => simp [intOf]; omega
theorem rfeed_any (g : Nat) (st : Option (List UInt8)) (S : ByteArray) (hl : (st.getD []).length + S.size ≤ 1073741824) (w : World) (hD : RDecIs w g st) :
    Calls Tryd.prog 24 #[.pointer (some ⟨g, 0, none⟩), .string S] w (RFeedEnd w g (Pl.step st S.data.toList)) := by
  cases st with
  | none => exact rfeed_none g S w hD
  | some h => exact rfeed_some g h S hl w hD
end Go.Proofs.YtpngmbdchceikaaDoor
