/- The walk of SessionBounds. -/
import Derived.Test.YtflhcffpfiameaaSess21
namespace Go.Proofs.Ytflhcffpfiameaa
open Go.ChangeShapes Go.WideShapes Go.ChangeAt Go.RowKit Go.Maps
set_option linter.unusedVariables false

/-- The key of a number, the keys of the first numbers. -/
def keyT (j : Nat) : Tx := [UInt8.ofNat (j / 256), UInt8.ofNat (j % 256)]
def keysT (m : Nat) : List Tx := (List.range m).map keyT
theorem keysT_length (m : Nat) : (keysT m).length = m := by simp [keysT]
theorem keysT_snoc (m : Nat) : keysT (m + 1) = keysT m ++ [keyT m] := by simp [keysT, List.range_succ]
theorem keyT_inj {i j : Nat} (hi : i < 65536) (hj : j < 65536) (h : keyT i = keyT j) : i = j := by
  simp only [keyT, List.cons.injEq, and_true] at h
  obtain ⟨h1, h2⟩ := h
  have a1 := congrArg UInt8.toNat h1
  have a2 := congrArg UInt8.toNat h2
  simp only [UInt8.toNat_ofNat'] at a1 a2
  omega
theorem keysT_nodup {m : Nat} (hm : m ≤ 65536) : (keysT m).Nodup := by
  unfold keysT
  unfold List.Nodup
  rw [List.pairwise_map]
  exact List.Pairwise.imp_of_mem (fun {a b} ha hb hne h => hne (keyT_inj (by have := List.mem_range.1 ha; omega) (by have := List.mem_range.1 hb; omega) h)) List.nodup_range
theorem addKs_new : ∀ (bs : List ByteArray) (ks : List Tx), ((bs.map (·.data.toList)).Nodup) → (∀ b ∈ bs, b.data.toList ∉ ks) → (addKs ks bs).length = ks.length + bs.length
  | [], ks, _, _ => by simp [addKs]
  | b :: bs, ks, hn, hk => by
    have h1 := List.nodup_cons.1 hn
    show (addKs (addB ks b.data.toList) bs).length = _
    have hb : addB ks b.data.toList = ks ++ [b.data.toList] := by
      have := hk b (by simp)
      unfold addB
      simp [this]
    rw [hb, addKs_new bs _ h1.2 ?_]
    · simp; omega
    · intro c hc hm
      rcases List.mem_append.1 hm with h | h
      · exact hk c (by simp [hc]) h
      · rw [List.mem_singleton] at h
        exact h1.1 (by show b.data.toList ∈ _; rw [← h]; exact List.mem_map.2 ⟨c, hc, rfl⟩)
theorem addKs_old : ∀ (bs : List ByteArray) (ks : List Tx), (∀ b ∈ bs, b.data.toList ∈ ks) → addKs ks bs = ks
  | [], ks, _ => rfl
  | b :: bs, ks, hk => by
    show addKs (addB ks b.data.toList) bs = ks
    have hb : addB ks b.data.toList = ks := by
      have := hk b (by simp)
      unfold addB
      simp [this]
    rw [hb]
    exact addKs_old bs ks fun c hc => hk c (by simp [hc])
def keysB (m : Nat) : List ByteArray := textsB (keysT m)
theorem texts_textsB (l : List Tx) : (textsB l).map (·.data.toList) = l := by simp [textsB, Function.comp_def, str]
theorem keysB_length (m : Nat) : (keysB m).length = m := by rw [keysB, textsB_length, keysT_length]
theorem keysB_size (m : Nat) : ∀ b ∈ keysB m, b.size ≤ maxLen := by
  intro b hb
  obtain ⟨t, ht, rfl⟩ := List.mem_map.1 hb
  obtain ⟨j, -, rfl⟩ := List.mem_map.1 ht
  simp [keyT, str, ByteArray.size, maxLen]
theorem keys_count {m : Nat} (hm : m ≤ 65536) : (addKs [] (keysB m)).length = m := by
  rw [addKs_new _ _ (by rw [keysB, texts_textsB]; exact keysT_nodup hm) (fun _ _ h => by simp at h), keysB_length]; simp
theorem keys_again (m : Nat) : addKs (addKs [] (keysB m)) (keysB m ++ keysB m) = addKs [] (keysB m) :=
  addKs_old _ _ fun b hb => mem_addKs.2 (.inr ⟨b, by simpa using hb, rfl⟩)
theorem bounds_w1 {S : SessM} {m : Nat} (hm : m ≤ 1024) : S.gone.watchR (keysB m) = .agg #[.int .i64 1, .string ⟨#[79, 75]⟩, .int .i64 0, .slice none 0 0] := by
  unfold SessM.watchR
  rw [if_neg (by simp [SessM.gone, SessM.new]), if_neg (by show ¬ 1024 < (addKs [] (keysB m)).length; rw [keys_count (by omega)]; omega)]
theorem bounds_s1 {S : SessM} {m : Nat} (hm : m ≤ 1024) : (S.gone.watch (keysB m)).multi = false ∧ (S.gone.watch (keysB m)).keys = addKs [] (keysB m) := by
  unfold SessM.watch
  rw [if_neg]
  · exact ⟨rfl, rfl⟩
  · rintro (h | h)
    · simp [SessM.gone, SessM.new] at h
    · replace h : 1024 < (addKs [] (keysB m)).length := h
      rw [keys_count (by omega)] at h; omega
theorem bounds_w2 {S : SessM} {m : Nat} (hm : 1024 < m) (hm2 : m ≤ 65536) : S.gone.watchR (keysB m) = .agg #[.int .i64 2, .string ⟨#[69, 82, 82, 32, 116, 111, 111, 32, 109, 97, 110, 121, 32, 119, 97, 116, 99, 104, 101, 100, 32, 107, 101, 121, 115]⟩, .int .i64 0, .slice none 0 0] := by
  unfold SessM.watchR
  rw [if_neg (by simp [SessM.gone, SessM.new]), if_pos (by show 1024 < (addKs [] (keysB m)).length; rw [keys_count hm2]; exact hm)]
theorem bounds_s2 {S : SessM} {m : Nat} (hm : 1024 < m) (hm2 : m ≤ 65536) : (S.gone.watch (keysB m)).keys = [] := by
  unfold SessM.watch
  rw [if_pos (.inr (by show 1024 < (addKs [] (keysB m)).length; rw [keys_count hm2]; exact hm))]
  rfl
theorem bounds_w3 {S : SessM} {m : Nat} (hm : m ≤ 1024) : (S.gone.watch (keysB m)).watchR (keysB m ++ keysB m) = .agg #[.int .i64 1, .string ⟨#[79, 75]⟩, .int .i64 0, .slice none 0 0] := by
  obtain ⟨h1, h2⟩ := bounds_s1 (S := S) hm
  unfold SessM.watchR
  rw [if_neg (by simp [h1]), if_neg (by rw [h2, keys_again, keys_count (by omega)]; omega)]
theorem conv_key (j : Nat) (hj : j < 65536) (w : World) : (convert 42 9 (.slice (some ⟨w.heap.size, 0, none⟩) 2 2)).run Try.prog (w.alloc (.cells #[.int .u8 ((j : Int) / 256), .int .u8 ((j : Int) % 256)] 5)) = .ok (.string (str (keyT j))) (w.alloc (.cells #[.int .u8 ((j : Int) / 256), .int .u8 ((j : Int) % 256)] 5)) :=
  run_convert_bytes_back (P := Try.prog) _ 42 9 5 ⟨w.heap.size, 0, none⟩ 2 (keyT j) Try.underlying42 Try.underlying5 Try.underlying9 (fun i hi => by
    have hi2 : i < 2 := hi
    have h0 := heap_alloc_new w (.cells #[.int .u8 ((j : Int) / 256), .int .u8 ((j : Int) % 256)] 5)
    have e1 : ((UInt8.ofNat (j / 256)).toNat : Int) = (j : Int) / 256 := by simp only [UInt8.toNat_ofNat']; omega
    have e2 : ((UInt8.ofNat (j % 256)).toNat : Int) = (j : Int) % 256 := by simp only [UInt8.toNat_ofNat']; omega
    generalize w.alloc (.cells #[.int .u8 ((j : Int) / 256), .int .u8 ((j : Int) % 256)] 5) = W at h0 ⊢
    match i, hi2 with
    | 0, _ =>
      show W.cell? ⟨w.heap.size, 0 + 0, none⟩ = some (.int .u8 ((UInt8.ofNat (j / 256)).toNat : Int))
      rw [e1]; simp [World.cell?, h0]
    | 1, _ =>
      show W.cell? ⟨w.heap.size, 0 + 1, none⟩ = some (.int .u8 ((UInt8.ofNat (j % 256)).toNat : Int))
      rw [e2]; simp [World.cell?, h0])
set_option maxRecDepth 100000 in
set_option maxHeartbeats 6400000 in
theorem sessionBounds_good (n : Nat) (h1 : 1 ≤ n) (h2 : n ≤ 1024) (v : Value) (ds : List (Int × List ByteArray)) (many : Int) (hds : ∀ d ∈ ds, (∀ b ∈ d.2, b.size ≤ maxLen) ∧ d.2.length ≤ 1048576) (hlen : ds.length ≤ 1048576) (w : World) (hv : DRow w v ds) :
    Calls Try.prog 4 #[.int .i64 n, v, .int .i64 many] w (DoesEnd w) := by
  obtain ⟨ao, cp, rfl⟩ := hv.shape
  have HV := Lib.hid hv
  have HD := Lib.hid hds
  clear hv hds
  go_enter Try.func4, Try.ntmps4
  go_wp2_with fail
  ((refine (new_any n h1 h2 _).mono ?_); rintro e w1 ⟨b, F, rfl, s1, l1, b1⟩)
  have X1 := Lib.hid (And.intro s1 (And.intro l1 b1))
  clear s1 l1 b1
  go_wp2_with fail
  ((refine (rnew_any n h1 h2 _).mono ?_); rintro e w2 ⟨x, G, rfl, s2, l2, b2⟩)
  have X2 := Lib.hid (Both.start X1.out.1 X1.out.2.1 X1.out.2.2 s2 l2 b2)
  clear s2 l2 b2
  go_wp2_with fail
  ((with_reducible refine (awake_any _).mono ?_); rintro e w3 ⟨rfl, b3⟩)
  have X3 := Lib.hid (And.intro (X2.out.1.below b3) (X2.out.2.trans (b3.mono X2.out.2.size)))
  clear b3
  go_wp2_with fail
  go_loopw [11, 12] (fun kv i wr => ∃ (j : Nat) (ka : Option Addr) (kc : Nat), j ≤ 1100 ∧ kv = .slice ka j kc ∧ i = .int .i64 j ∧ Hid (Made w3 wr (.slice ka j kc) (keysT j)) ∧ Hid (Below w3.heap.size w3 wr)) (fun _ i _ => 1100 - (intOf i).toNat)
  case atStart => exact ⟨0, none, 0, by omega, rfl, rfl, Made.nil _ _, Below.refl _ _⟩
  case round =>
    obtain ⟨j, ka, kc, hj, rfl, rfl, hk, hb⟩ := hrel
    by_cases hjm : (j : Int) < many
    · by_cases hjl : j < 1100
      · have hjI : (j : Int) < 1100 := by omega
        have hj0 : (0 : Int) ≤ (j : Int) := by omega
        go_wp2_with fail
        rw [conv_key j (by omega)]
        simp only [Result.andThen]
        rw [Oper.upon_value]
        have ho := hk.out.owns.alloc (.cells #[.int .u8 ((j : Int) / 256), .int .u8 ((j : Int) % 256)] 5)
        rw [keysT_length] at ho
        have hbo := hb.out.alloc hb.out.size (.cells #[.int .u8 ((j : Int) / 256), .int .u8 ((j : Int) % 256)] 5)
        generalize wr.alloc (.cells #[.int .u8 ((j : Int) / 256), .int .u8 ((j : Int) % 256)] 5) = wz at ho hbo ⊢
        have HO := Lib.hid ho
        have HBo := Lib.hid hbo
        clear ho hbo
        go_wp2_with (at_builtin; refine wpList_append_one _ rfl _ _ 23 rfl w3.heap.size 9 (.string ⟨#[]⟩) 16 Try.underlying23 infoS rfl (.slice ka j kc) j ((keysT j).map strV) rfl HO.out (.string (str (keyT j))) rfl rfl (by simp only [maxLen]; omega) (by omega) HBo.out.size ?_)
        intro v6 w6 hown6 hg6 hbl6
        have hb6 := hbl6 w3 w3.heap.size HBo.out (Nat.le_refl _)
        obtain ⟨a6, c6, hv6, HM6⟩ := grownT (L := keysT j) (x := keyT j) (by rw [keysT_length]; exact hown6) hb6
        rw [keysT_length] at hv6 HM6
        subst hv6
        clear hown6 hg6 hbl6 hb6
        go_wp2
        go_roundw
        case rel => exact ⟨j + 1, a6, c6, by omega, rfl, by go_num, by show Made _ _ _ _; rw [keysT_snoc]; exact HM6.out.1, HM6.out.2⟩
        case measure => simp [intOf]; omega
      · have hjz : (1100 : Int) ≤ (j : Int) := by omega
        obtain ⟨wk, hwk⟩ : ∃ wk, wk = wr := ⟨_, rfl⟩
        subst hwk
        go_wp2_with fail
        have XB := Lib.hid (And.intro (X3.out.1.beside hb.out) (X3.out.2.trans (hb.out.mono X3.out.2.size)))
        have RK := Lib.hid (show Row wk (fun k => w3.heap.size ≤ k ∧ k < wk.heap.size) 9 (.slice ka j kc) ((keysT j).map strV) from ⟨hk.out.1, fun g hg => ⟨hk.out.2 g hg, hk.out.lt hg⟩⟩)
        have hb3 := hb.out.size
        clear hk hb
        go_loopw [13] (fun i wr => ∃ q : Nat, q ≤ ds.length ∧ i = .int .i64 q ∧ Hid (Both w.heap.size n b x w3.heap.size wk.heap.size wr ∧ Below w.heap.size w wr ∧ wk.heap.size ≤ wr.heap.size) ∧ Hid (Row wr (fun k => w3.heap.size ≤ k ∧ k < wk.heap.size) 9 (.slice ka j kc) ((keysT j).map strV))) (fun i _ => ds.length - (intOf i).toNat)
        case atStart => exact ⟨0, Nat.zero_le _, rfl, ⟨XB.out.1, XB.out.2, Nat.le_refl _⟩, RK.out⟩
        case round =>
          obtain ⟨q, hq, rfl, hr, hrow⟩ := hrel
          by_cases hql : q < ds.length
          · obtain ⟨d, hd⟩ : ∃ d, ds[q]? = some d := ⟨_, List.getElem?_eq_getElem hql⟩
            obtain ⟨g, off, va, vc, rfl, hg, p0, p1, hs⟩ := HV.out.at hd
            have c0 : wr.cell? ⟨g, off + q * 2, none⟩ = some (.int .i64 d.1) := (hr.out.2.1.cell (p := ⟨g, off + q * 2, none⟩) hg).trans p0
            have c1 : wr.cell? ⟨g, off + q * 2 + 1, none⟩ = some (.slice va d.2.length vc) := (hr.out.2.1.cell (p := ⟨g, off + q * 2 + 1, none⟩) hg).trans p1
            have hdd := HD.out d (List.mem_of_getElem? hd)
            have HE := Lib.hid (did_any hr.out.1 hr.out.2.2 d.1 va vc d.2 (fun W hW => hs.kept (hr.out.2.1.trans hW)) hdd.1 hdd.2)
            have hqI : (q : Int) < (ds.length : Int) := by omega
            have hq0 : (0 : Int) ≤ (q : Int) := by omega
            clear hd hs hdd p0 p1 hg
            go_wp2_with fail
            ((with_reducible refine HE.out.mono ?_); rintro e w5 ⟨rfl, h5, b5, r5⟩)
            have X5 := Lib.hid (And.intro h5 (And.intro (hr.out.2.1.trans b5) (Nat.le_trans hr.out.2.2 r5.size)))
            have R5 := Lib.hid (hrow.out.kept r5 (fun k hk h => by omega))
            obtain ⟨S5, A5, hQ5, hP5⟩ := h5.alone X5.out.2.2
            have hf5 := A5.facts
            have HA5 := Lib.hid (And.intro A5 hQ5)
            have hc1 : ¬ ((n : Int) < (S5.queue.length : Int)) := by omega
            have hc2 : ¬ ((1024 : Int) < (S5.keys.length : Int)) := by omega
            clear h5 b5 r5 A5 hQ5
            go_wp2_with fail
            ((with_reducible refine (queued_al HA5.out.1 HA5.out.2).mono ?_); rintro e w6 ⟨a6, c6, rfl, b6⟩)
            have HA6 := Lib.hid (HA5.out.1.below b6)
            have X6 := Lib.hid (And.intro (X5.out.1.below b6) (And.intro (X5.out.2.1.trans (b6.mono X5.out.2.1.size)) (Nat.le_trans X5.out.2.2 b6.size)))
            have R6 := Lib.hid (R5.out.kept (G := fun _ => False) (Wr.of_below b6) (fun _ _ h => h))
            clear b6
            go_wp2_with fail
            ((with_reducible refine (watched_al HA6.out).mono ?_); rintro e w7 ⟨a7, c7, rfl, b7⟩)
            have X7 := Lib.hid (And.intro (X6.out.1.below b7) (And.intro (X6.out.2.1.trans (b7.mono X6.out.2.1.size)) (Nat.le_trans X6.out.2.2 b7.size)))
            have R7 := Lib.hid (R6.out.kept (G := fun _ => False) (Wr.of_below b7) (fun _ _ h => h))
            clear b7
            go_wp2
            go_roundw
            case rel => exact ⟨q + 1, by omega, by go_num, X7.out, R7.out⟩
            case measure => simp [intOf]; omega
          · obtain rfl : q = ds.length := by omega
            obtain ⟨S, A0, hQ, hP⟩ := hr.out.1.alone hr.out.2.2
            have HA := Lib.hid (And.intro A0 (And.intro hr.out.2.1 hrow.out))
            clear A0 hr hrow
            go_wp2_with fail
            ((with_reducible refine (reset_al HA.out.1).mono ?_); rintro e w5 ⟨rfl, a5, b5, r5⟩)
            have H5 := Lib.hid (And.intro a5 (And.intro (HA.out.2.1.trans b5) (HA.out.2.2.kept r5 (fun k hk h => by omega))))
            have hkw := keysB_length j
            have HS5 := Lib.hid (show SRow w5 (.slice ka j kc) (keysB j) from H5.out.2.2.srow)
            clear a5 b5 r5
            by_cases hm : j ≤ 1024
            · skip
              exfalso; omega
            · skip
              have hm' : 1024 < j := by omega
              have HW := watch_al H5.out.1 _ (keysB j) HS5.out (keysB_size j) (by omega)
              rw [bounds_w2 hm' (by omega)] at HW
              replace HW := Lib.hid HW
              have hmI : ¬ (j : Int) ≤ 1024 := by omega
              go_wp2_with fail
              ((with_reducible refine HW.out.mono ?_); rintro e w6 ⟨rfl, a6, b6, r6⟩)
              have H6 := Lib.hid (And.intro a6 (H5.out.2.1.trans b6))
              clear a6 b6 r6
              have HC := fun o => watched_al (H6.out.1.below ((Below.refl _ w6).alloc (Nat.le_refl _) o))
              rw [bounds_s2 hm' (by omega)] at HC
              replace HC := Lib.hid HC
              have HX6 := Lib.hid (fun o => (Below.refl _ w6).alloc (Nat.le_refl _) o)
              go_wp2_with fail
              ((with_reducible refine (HC.out _).mono ?_); rintro e w7 ⟨a7, c7, rfl, b7⟩)
              have B7 := Lib.hid ((HX6.out _).trans (b7.mono (HX6.out _).size))
              have H7 := Lib.hid (H6.out.2.trans (B7.out.mono H6.out.2.size))
              clear b7
              go_wp2
              go_ret
              exact ⟨rfl, H7.out⟩
    · skip
      obtain ⟨wk, hwk⟩ : ∃ wk, wk = wr := ⟨_, rfl⟩
      subst hwk
      go_wp2_with fail
      have XB := Lib.hid (And.intro (X3.out.1.beside hb.out) (X3.out.2.trans (hb.out.mono X3.out.2.size)))
      have RK := Lib.hid (show Row wk (fun k => w3.heap.size ≤ k ∧ k < wk.heap.size) 9 (.slice ka j kc) ((keysT j).map strV) from ⟨hk.out.1, fun g hg => ⟨hk.out.2 g hg, hk.out.lt hg⟩⟩)
      have hb3 := hb.out.size
      clear hk hb
      go_loopw [13] (fun i wr => ∃ q : Nat, q ≤ ds.length ∧ i = .int .i64 q ∧ Hid (Both w.heap.size n b x w3.heap.size wk.heap.size wr ∧ Below w.heap.size w wr ∧ wk.heap.size ≤ wr.heap.size) ∧ Hid (Row wr (fun k => w3.heap.size ≤ k ∧ k < wk.heap.size) 9 (.slice ka j kc) ((keysT j).map strV))) (fun i _ => ds.length - (intOf i).toNat)
      case atStart => exact ⟨0, Nat.zero_le _, rfl, ⟨XB.out.1, XB.out.2, Nat.le_refl _⟩, RK.out⟩
      case round =>
        obtain ⟨q, hq, rfl, hr, hrow⟩ := hrel
        by_cases hql : q < ds.length
        · obtain ⟨d, hd⟩ : ∃ d, ds[q]? = some d := ⟨_, List.getElem?_eq_getElem hql⟩
          obtain ⟨g, off, va, vc, rfl, hg, p0, p1, hs⟩ := HV.out.at hd
          have c0 : wr.cell? ⟨g, off + q * 2, none⟩ = some (.int .i64 d.1) := (hr.out.2.1.cell (p := ⟨g, off + q * 2, none⟩) hg).trans p0
          have c1 : wr.cell? ⟨g, off + q * 2 + 1, none⟩ = some (.slice va d.2.length vc) := (hr.out.2.1.cell (p := ⟨g, off + q * 2 + 1, none⟩) hg).trans p1
          have hdd := HD.out d (List.mem_of_getElem? hd)
          have HE := Lib.hid (did_any hr.out.1 hr.out.2.2 d.1 va vc d.2 (fun W hW => hs.kept (hr.out.2.1.trans hW)) hdd.1 hdd.2)
          have hqI : (q : Int) < (ds.length : Int) := by omega
          have hq0 : (0 : Int) ≤ (q : Int) := by omega
          clear hd hs hdd p0 p1 hg
          go_wp2_with fail
          ((with_reducible refine HE.out.mono ?_); rintro e w5 ⟨rfl, h5, b5, r5⟩)
          have X5 := Lib.hid (And.intro h5 (And.intro (hr.out.2.1.trans b5) (Nat.le_trans hr.out.2.2 r5.size)))
          have R5 := Lib.hid (hrow.out.kept r5 (fun k hk h => by omega))
          obtain ⟨S5, A5, hQ5, hP5⟩ := h5.alone X5.out.2.2
          have hf5 := A5.facts
          have HA5 := Lib.hid (And.intro A5 hQ5)
          have hc1 : ¬ ((n : Int) < (S5.queue.length : Int)) := by omega
          have hc2 : ¬ ((1024 : Int) < (S5.keys.length : Int)) := by omega
          clear h5 b5 r5 A5 hQ5
          go_wp2_with fail
          ((with_reducible refine (queued_al HA5.out.1 HA5.out.2).mono ?_); rintro e w6 ⟨a6, c6, rfl, b6⟩)
          have HA6 := Lib.hid (HA5.out.1.below b6)
          have X6 := Lib.hid (And.intro (X5.out.1.below b6) (And.intro (X5.out.2.1.trans (b6.mono X5.out.2.1.size)) (Nat.le_trans X5.out.2.2 b6.size)))
          have R6 := Lib.hid (R5.out.kept (G := fun _ => False) (Wr.of_below b6) (fun _ _ h => h))
          clear b6
          go_wp2_with fail
          ((with_reducible refine (watched_al HA6.out).mono ?_); rintro e w7 ⟨a7, c7, rfl, b7⟩)
          have X7 := Lib.hid (And.intro (X6.out.1.below b7) (And.intro (X6.out.2.1.trans (b7.mono X6.out.2.1.size)) (Nat.le_trans X6.out.2.2 b7.size)))
          have R7 := Lib.hid (R6.out.kept (G := fun _ => False) (Wr.of_below b7) (fun _ _ h => h))
          clear b7
          go_wp2
          go_roundw
          case rel => exact ⟨q + 1, by omega, by go_num, X7.out, R7.out⟩
          case measure => simp [intOf]; omega
        · obtain rfl : q = ds.length := by omega
          obtain ⟨S, A0, hQ, hP⟩ := hr.out.1.alone hr.out.2.2
          have HA := Lib.hid (And.intro A0 (And.intro hr.out.2.1 hrow.out))
          clear A0 hr hrow
          go_wp2_with fail
          ((with_reducible refine (reset_al HA.out.1).mono ?_); rintro e w5 ⟨rfl, a5, b5, r5⟩)
          have H5 := Lib.hid (And.intro a5 (And.intro (HA.out.2.1.trans b5) (HA.out.2.2.kept r5 (fun k hk h => by omega))))
          have hkw := keysB_length j
          have HS5 := Lib.hid (show SRow w5 (.slice ka j kc) (keysB j) from H5.out.2.2.srow)
          clear a5 b5 r5
          by_cases hm : j ≤ 1024
          · skip
            have HW := watch_al H5.out.1 _ (keysB j) HS5.out (keysB_size j) (by omega)
            rw [bounds_w1 hm] at HW
            replace HW := Lib.hid HW
            go_wp2_with fail
            ((with_reducible refine HW.out.mono ?_); rintro e w6 ⟨rfl, a6, b6, r6⟩)
            have H6 := Lib.hid (And.intro a6 (And.intro (H5.out.2.1.trans b6) (H5.out.2.2.kept r6 (fun k hk h => by omega))))
            clear a6 b6 r6
            have hkk : (S.gone.watch (keysB j)).keys.length = j := by rw [(bounds_s1 (S := S) hm).2, keys_count (by omega)]
            have HC := fun o => watched_al (H6.out.1.below ((Below.refl _ w6).alloc (Nat.le_refl _) o))
            rw [hkk] at HC
            replace HC := Lib.hid HC
            have HX6 := Lib.hid (fun o => (Below.refl _ w6).alloc (Nat.le_refl _) o)
            have hmI : (j : Int) ≤ 1024 := by omega
            clear hkk
            go_wp2_with fail
            ((with_reducible refine (HC.out _).mono ?_); rintro e w7 ⟨a7, c7, rfl, b7⟩)
            have B7 := Lib.hid ((HX6.out _).trans (b7.mono (HX6.out _).size))
            have H7 := Lib.hid (And.intro (H6.out.1.below B7.out) (And.intro (H6.out.2.1.trans (B7.out.mono H6.out.2.1.size)) (H6.out.2.2.kept (G := fun _ => False) (Wr.of_below B7.out) (fun _ _ h => h))))
            clear b7
            have M7 := Lib.hid (show Made w w7 (.slice ka j kc) (keysT j) from H7.out.2.2.mono (fun k hk => by have := X3.out.2.size; omega))
            have T7 := Lib.hid (show TRow w7 (.slice ka j kc) (keysT j) from H7.out.2.2.srow)
            go_wp2_with (at_builtin; refine wpList_append_rowq (w0 := w) rfl (.tmp 122) (.tmp 123) rfl (keysT j) (keysT j) (.slice ka j kc) (.slice ka j kc) rfl rfl M7.out T7.out H7.out.2.1 (by rw [keysT_length]; omega) ?_)
            intro v8 w8 m8 b8 g8
            have A8 := H7.out.1.kept ((Wr.refl (fun k => w3.heap.size ≤ k ∧ k < wk.heap.size) w7).grown g8 (fun k e => .inl (H7.out.2.2.2 k e)))
            have S8 : SRow w8 v8 (keysB j ++ keysB j) := by have := Row.srow m8; rwa [textsB, List.map_append] at this
            obtain ⟨a8, c8, rfl⟩ := m8.shape
            rw [List.length_append, keysT_length] at S8
            rw [List.length_append, keysT_length]
            have HL := watch_al A8 _ (keysB j ++ keysB j) S8 (fun x hx => keysB_size j x (by simpa using hx)) (by rw [List.length_append]; omega)
            rw [bounds_w3 hm] at HL
            replace HL := Lib.hid HL
            have H8 := Lib.hid b8
            clear m8 b8 g8 A8 S8
            go_wp2_with fail
            ((with_reducible refine HL.out.mono ?_); rintro e w9 ⟨rfl, a9, b9, r9⟩)
            have H9 := Lib.hid (H8.out.trans b9)
            clear a9 b9 r9
            have hfk := field_kindA
            go_wp2
            go_ret
            exact ⟨rfl, H9.out⟩
          · skip
            have hm' : 1024 < j := by omega
            have HW := watch_al H5.out.1 _ (keysB j) HS5.out (keysB_size j) (by omega)
            rw [bounds_w2 hm' (by omega)] at HW
            replace HW := Lib.hid HW
            have hmI : ¬ (j : Int) ≤ 1024 := by omega
            go_wp2_with fail
            ((with_reducible refine HW.out.mono ?_); rintro e w6 ⟨rfl, a6, b6, r6⟩)
            have H6 := Lib.hid (And.intro a6 (H5.out.2.1.trans b6))
            clear a6 b6 r6
            have HC := fun o => watched_al (H6.out.1.below ((Below.refl _ w6).alloc (Nat.le_refl _) o))
            rw [bounds_s2 hm' (by omega)] at HC
            replace HC := Lib.hid HC
            have HX6 := Lib.hid (fun o => (Below.refl _ w6).alloc (Nat.le_refl _) o)
            go_wp2_with fail
            ((with_reducible refine (HC.out _).mono ?_); rintro e w7 ⟨a7, c7, rfl, b7⟩)
            have B7 := Lib.hid ((HX6.out _).trans (b7.mono (HX6.out _).size))
            have H7 := Lib.hid (H6.out.2.trans (B7.out.mono H6.out.2.size))
            clear b7
            go_wp2
            go_ret
            exact ⟨rfl, H7.out⟩
set_option maxRecDepth 100000 in
set_option maxHeartbeats 3200000 in
theorem sessionBounds_bad (n : Int) (h : n < 1 ∨ 1024 < n) (v : Value) (many : Int) (w : World) :
    Calls Try.prog 4 #[.int .i64 n, v, .int .i64 many] w (DoesEnd w) := by
  go_enter Try.func4, Try.ntmps4
  go_wp2_with fail
  ((refine (new_bad n h _).mono ?_); rintro e w1 ⟨rfl, rfl⟩)
  go_wp2_with fail
  ((refine (rnew_bad n h _).mono ?_); rintro e w2 ⟨rfl, rfl⟩)
  go_wp2_with fail
  ((with_reducible refine (awake_any _).mono ?_); rintro e w3 ⟨rfl, b3⟩)
  have X3 := Lib.hid b3
  clear b3
  go_wp2
  go_ret
  exact ⟨rfl, X3.out⟩
theorem sessionBounds_walk (n : Int) (v : Value) (ds : List (Int × List ByteArray)) (hds : ∀ d ∈ ds, (∀ b ∈ d.2, b.size ≤ maxLen) ∧ d.2.length ≤ 1048576) (hlen : ds.length ≤ 1048576) (many : Int) (w : World) (hv : DRow w v ds) :
    Calls Try.prog 4 #[.int .i64 n, v, .int .i64 many] w fun e w' => e = .returned (.bool true) ∧ Below w.heap.size w w' := by
  by_cases h : 1 ≤ n ∧ n ≤ 1024
  · obtain ⟨m, rfl⟩ : ∃ m : Nat, n = m := ⟨n.toNat, by omega⟩
    exact sessionBounds_good m (by omega) (by omega) v ds many hds hlen w hv
  · exact sessionBounds_bad n (by omega) v many w
end Go.Proofs.Ytflhcffpfiameaa
