/- The walk of AofNobody. -/
import Derived.Test.YtfbjmhipjfjaeaaGreatDoorM27
namespace Go.Proofs.YtfbjmhipjfjaeaaGreatDoor
open Go.ChangeShapes Go.WideShapes Go.ChangeAt Go.RowKit Go.Maps Pl
set_option linter.unusedVariables false
set_option linter.unusedSimpArgs false
set_option maxRecDepth 100000 in
set_option maxHeartbeats 8000000 in
theorem nobody_any {a : Addr} (pol : Int) (s : ByteArray) (w : World) (hs : Sent w a) (h3 : 3 ≤ w.heap.size) :
    Calls Tryz.prog 3 #[.int .i64 pol, .string s] w fun e w' => e = .returned (.bool true) ∧ Below w.heap.size w w' := by
  have HS := Lib.hid (fun W (hb : Below w.heap.size w W) => sure_any (hs.kept (K := fun _ => False) (Wr.of_below hb) (by omega) (fun _ _ h => h)) (Nat.le_trans h3 hb.size))
  clear hs
  go_enter Tryz.func3, Tryz.ntmps3
  go_wp2_with fail
  refine (open_nil _ _ _).mono ?_
  rintro e w1 ⟨rfl, b1⟩
  have B1 := Lib.hid (b1.alloc b1.size (.cells #[.int .i64 0, .int .i64 0, .int .i64 0, .int .u64 0] 26))
  clear b1
  go_wp2_with fail
  refine (append_nil _ _).mono ?_
  rintro e w2 ⟨rfl, rfl⟩
  go_wp2_with fail
  refine (sync_nil _).mono ?_
  rintro e w2 ⟨rfl, rfl⟩
  go_wp2_with fail
  refine (rewrite_nil _ _).mono ?_
  rintro e w2 ⟨rfl, rfl⟩
  go_wp2_with fail
  refine (close_nil _).mono ?_
  rintro e w2 ⟨rfl, rfl⟩
  go_wp2_with fail
  refine (broken_nil _).mono ?_
  rintro e w2 ⟨rfl, rfl⟩
  go_wp2_with fail
  refine (last_nil _).mono ?_
  rintro e w2 ⟨rfl, rfl⟩
  go_wp2_with fail
  refine (lasting_nil _).mono ?_
  rintro e w2 ⟨rfl, rfl⟩
  go_wp2_with fail
  refine (size_nil _).mono ?_
  rintro e w2 ⟨rfl, rfl⟩
  go_wp2_with fail
  refine (HS.out _ B1.out).mono ?_
  rintro e w2 ⟨rfl, b2⟩
  go_wp2
  go_ret
  exact ⟨rfl, B1.out.trans (b2.mono B1.out.size)⟩
theorem aofNobody_walk (pol : Int) (w0 : (Lit.int .i64 pol).wf = true) (s : ByteArray) (w1 : s.size ≤ maxLen) (w : World) {a : Addr} (hs : Sent w a) (h3 : 3 ≤ w.heap.size) :
    Calls Tryz.prog 3 #[.int .i64 pol, .string s] w fun e w' => e = .returned (.bool true) ∧ Below w.heap.size w w' := nobody_any pol s w hs h3
end Go.Proofs.YtfbjmhipjfjaeaaGreatDoor
