/- A word's validity: the program's functions and the reference's. -/
import Derived.Test.YthciikogogkfcaaWordP
import Derived.Test.YthciikogogkfcaaChainW
namespace Go.Proofs.Ythciikogogkfcaa
open Go.RowKit Go.Deep
set_option linter.unusedVariables false

theorem isAddress_impl (n : Int) (w : World) (h : -9223372036854775808 ≤ n ∧ n ≤ 9223372036854775807) :
    Calls Try.prog 65 #[.int .i64 n] w fun e w' => e = .returned (.bool (addrB n)) ∧ w = w' := by
  rcases hs : inB n 0 3 with _ | _
  · have HR : Hid (addrB n = inB (IntKind.i64.wrap (n - 10)) 0 1) := by show _ = _; rw [addr_wrap h hs, addrB, hs]; rfl
    go_enter Try.func65, Try.ntmps65
    go_wp2_with fail
    refine (isSite_impl _ _).mono ?_
    rintro e w' ⟨rfl, rfl⟩
    go_wp2_with fail
    refine (isClient_impl _ _).mono ?_
    rintro e w' ⟨rfl, rfl⟩
    go_wp2
    go_ret
    exact ⟨by rw [HR.out]; first | rfl | (rw [show IntKind.i64.wrap (n - 10) = wrap64 (n - 10) from by rw [IntKind.wrap_i64]; unfold wrap64; omega]; rfl), rfl⟩
  · have HR : Hid (addrB n = true) := by show _ = _; rw [addrB, hs]; rfl
    go_enter Try.func65, Try.ntmps65
    go_wp2_with fail
    refine (isSite_impl _ _).mono ?_
    rintro e w' ⟨rfl, rfl⟩
    go_wp2
    go_ret
    exact ⟨by rw [HR.out]; rfl, rfl⟩
theorem isAddr_spec (n : Int) (w : World) :
    Calls Try.prog 69 #[.int .i64 n] w fun e w' => e = .returned (.bool (inB n 10 11)) ∧ w = w' := by
  go_enter Try.func69, Try.ntmps69
  go_wp2_with fail
  refine (in_spec _ _ _ _).mono ?_
  rintro e w' ⟨rfl, rfl⟩
  go_wp2
  go_ret
  exact ⟨rfl, rfl⟩

set_option maxHeartbeats 1000000 in
theorem none_impl (t s : Int) (w : World) :
    Calls Try.prog 97 #[.agg #[.int .i64 t, .int .i64 s]] w fun e w' => e = .returned (.bool (decide (t = 0) && decide (s = 0))) ∧ Below w.heap.size w w' := by
  have G0 := below_box w (.cells #[.int .i64 t, .int .i64 s] 24)
  have BS := Blk.new w #[.int .i64 t, .int .i64 s] 24
  obtain ⟨b0, b1, bf, bl⟩ := BS.two
  by_cases h1 : t = 0
  · have h1' : (t == 0) = true := by simpa using h1
    by_cases h2 : s = 0
    · have h2' : (s == 0) = true := by simpa using h2
      have HR : Hid ((decide (t = 0) && decide (s = 0)) = true) := by show _ = _; simp [h1, h2]
      clear h1 h2
      go_enter Try.func97, Try.ntmps97
      go_wp2
      go_ret
      exact ⟨by rw [HR.out]; rfl, G0⟩
    · have h2' : (s == 0) = false := by simpa using h2
      have HR : Hid ((decide (t = 0) && decide (s = 0)) = false) := by show _ = _; simp [h2]
      clear h1 h2
      go_enter Try.func97, Try.ntmps97
      go_wp2
      go_ret
      exact ⟨by rw [HR.out]; rfl, G0⟩
  · have h1' : (t == 0) = false := by simpa using h1
    have HR : Hid ((decide (t = 0) && decide (s = 0)) = false) := by show _ = _; simp [h1]
    clear h1
    go_enter Try.func97, Try.ntmps97
    go_wp2
    go_ret
    exact ⟨by rw [HR.out]; rfl, G0⟩

set_option maxHeartbeats 1000000 in
theorem fits_spec (t s : Int) (w : World) :
    Calls Try.prog 70 #[.agg #[.int .i64 t, .int .i64 s]] w fun e w' => e = .returned (.bool (fitsB t s)) ∧ Below w.heap.size w w' := by
  have G0 := below_box w (.cells #[.int .i64 t, .int .i64 s] 24)
  have BS := Blk.new w #[.int .i64 t, .int .i64 s] 24
  obtain ⟨b0, b1, bf, bl⟩ := BS.two
  by_cases h1 : t = 0
  · have h1' : (t == 0) = true := by simpa using h1
    by_cases h2 : s = 0
    · have h2' : (s == 0) = true := by simpa using h2
      have HR : Hid ((fitsB t s) = true) := by show _ = _; simp [fitsB, h1, h2]
      clear h1 h2
      go_enter Try.func70, Try.ntmps70
      go_wp2
      go_ret
      exact ⟨by rw [HR.out]; rfl, G0⟩
    · have h2' : (s == 0) = false := by simpa using h2
      have HR : Hid ((fitsB t s) = stampOkB t s) := by show _ = _; simp [fitsB, h2]
      clear h1 h2
      go_enter Try.func70, Try.ntmps70
      go_wp2_with fail
      refine (stampOk_spec _ _ _).mono ?_
      rintro e w1 ⟨rfl, hb1⟩
      go_wp2
      go_ret
      exact ⟨by rw [HR.out]; rfl, below_after G0 hb1⟩
  · have h1' : (t == 0) = false := by simpa using h1
    have HR : Hid ((fitsB t s) = stampOkB t s) := by show _ = _; simp [fitsB, h1]
    clear h1
    go_enter Try.func70, Try.ntmps70
    go_wp2_with fail
    refine (stampOk_spec _ _ _).mono ?_
    rintro e w1 ⟨rfl, hb1⟩
    go_wp2
    go_ret
    exact ⟨by rw [HR.out]; rfl, below_after G0 hb1⟩

set_option maxHeartbeats 1000000 in
theorem fits_impl (t s : Int) (w : World) :
    Calls Try.prog 66 #[.agg #[.int .i64 t, .int .i64 s]] w fun e w' => e = .returned (.bool (fitsB t s)) ∧ Below w.heap.size w w' := by
  have G0 := below_box w (.cells #[.int .i64 t, .int .i64 s] 24)
  have BS := Blk.new w #[.int .i64 t, .int .i64 s] 24
  rcases hz : (decide (t = 0) && decide (s = 0)) with _ | _
  · have HR : Hid (fitsB t s = stampOkB t s) := by show _ = _; rw [fitsB, hz]; rfl
    have hc := fun W => bool_is hz (none_impl t s W)
    have HC := Lib.hid hc
    clear hz hc
    go_enter Try.func66, Try.ntmps66
    go_wp2_with fail
    refine (HC.out _).mono ?_
    rintro e w1 ⟨rfl, hb1⟩
    have BS := BS.below hb1 BS.lt
    have G0 := below_after G0 hb1
    obtain ⟨b0, b1, bf, bl⟩ := BS.two
    go_wp2_with fail
    refine (stampOk_impl _ _ _).mono ?_
    rintro e w2 ⟨rfl, hb2⟩
    go_wp2
    go_ret
    exact ⟨by rw [HR.out]; rfl, below_after G0 hb2⟩
  · have HR : Hid (fitsB t s = true) := by show _ = _; rw [fitsB, hz]; rfl
    have hc := fun W => bool_is hz (none_impl t s W)
    have HC := Lib.hid hc
    clear hz hc
    go_enter Try.func66, Try.ntmps66
    go_wp2_with fail
    refine (HC.out _).mono ?_
    rintro e w1 ⟨rfl, hb1⟩
    go_wp2
    go_ret
    exact ⟨by rw [HR.out]; rfl, below_after G0 hb1⟩

set_option maxRecDepth 100000 in
set_option maxHeartbeats 4000000 in
theorem debts_impl (l : List Dp) (a : Option Addr) (c : Nat) (w : World) (hr : Reads w a l.length c (dpsC l)) (hl : l.length ≤ 1048577) :
    Calls Try.prog 67 #[.slice a l.length c] w (Says (debtsB l) w) := by
  go_enter Try.func67, Try.ntmps67
  go_wp2
  go_loopw [7] (fun i wr => ∃ k : Nat, k ≤ l.length ∧ i = .int .i64 k ∧ dbB (l.take k) = true ∧ Below w.heap.size w wr) (fun i _ => l.length - (intOf i).toNat)
  case atStart => exact ⟨0, Nat.zero_le _, rfl, rfl, Below.refl _ _⟩
  case round =>
    obtain ⟨k, hk, rfl, hok, hBw⟩ := hrel
    have HO := Lib.hid hok
    clear hok
    by_cases hlt : k < l.length
    · have hr0 := hr.below hBw
      have HT := Lib.hid (dbB_take l k hlt)
      have hi0 : (0 : Int) ≤ (k : Int) := by omega
      have hi1 : (k : Int) < (l.length : Int) := by omega
      obtain ⟨_, _, h3⟩ := hr0
      obtain ⟨b, off, rfl, hbl, hcell⟩ := h3 (dpsC_ne (by omega))
      obtain ⟨g0, g1, g2⟩ := dpsC_get l k hlt
      obtain ⟨c0, c1, c2, _⟩ := cells3 (Below.refl _ wr) hbl (hcell _ _ g0) (hcell _ _ g1) (hcell _ _ g2)
      rw [← Nat.add_assoc] at c1 c2
      have hbx := below_box wr (.cells #[.int .i64 l[k].1, .int .i64 l[k].2.1, .int .i64 l[k].2.2] 32)
      obtain ⟨y0, y1, y2, hbl1⟩ := cells3 hbx hbl c0 c1 c2
      have BE := Blk.new wr #[.int .i64 l[k].1, .int .i64 l[k].2.1, .int .i64 l[k].2.2] 32
      obtain ⟨e0, e1, e2, ef, el⟩ := BE.three
      have G0 := below_after hBw hbx
      rcases hkk : inB l[k].1 0 5 with _ | _
      · have HN : Hid (debtsB l = false) := debts_no (dbB_bad _ (k + 1) (by rw [HT.out, HO.out, hkk]; rfl))
        clear hcell h3 g0 g1 g2
        go_wp2
        refine region_over (by kernel_rfl) (by kernel_rfl) ?_
        repeat (go_big_quiet_step (first | (go_at_call 47; exact quiet_over_same (bool_is hkk (isKey_impl _ _)))))
        refine wpQuiet_nil ?_
        intro w9 hb9
        have G1 := below_after G0 hb9
        go_wp2
        go_ret
        exact ⟨by rw [HN.out]; rfl, G1⟩
      rcases hss : stampOkB l[k].2.1 l[k].2.2 with _ | _
      · have HN : Hid (debtsB l = false) := debts_no (dbB_bad _ (k + 1) (by rw [HT.out, HO.out, hkk, hss]; rfl))
        clear hcell h3 g0 g1 g2
        go_wp2
        refine region_over (by kernel_rfl) (by kernel_rfl) ?_
        repeat (go_big_quiet_step (first | (go_at_call 47; exact quiet_over_same (bool_is hkk (isKey_impl _ _))) | (go_at_call 48; exact quiet_over (bool_is hss (stampOk_impl _ _ _)))))
        refine wpQuiet_nil ?_
        intro w9 hb9
        have G1 := below_after G0 hb9
        go_wp2
        go_ret
        exact ⟨by rw [HN.out]; rfl, G1⟩
      by_cases h0 : 0 < k
      · have h00 : (0 : Int) < (k : Int) := by omega
        have hj0 : (0 : Int) ≤ (k : Int) - 1 := by omega
        have hj1 : (k : Int) - 1 < (l.length : Int) := by omega
        obtain ⟨f0, f1, f2⟩ := dpsC_get l (k - 1) (by omega)
        obtain ⟨d0, d1, d2, _⟩ := cells3 (Below.refl _ wr) hbl (hcell _ _ f0) (hcell _ _ f1) (hcell _ _ f2)
        rw [← Nat.add_assoc] at d1 d2
        obtain ⟨z0, z1, z2, _⟩ := cells3 hbx hbl d0 d1 d2
        clear hcell h3 g0 g1 g2 f0 f1 f2
        rcases hls : depLessB (l[k - 1]'(by omega)).1 (l[k - 1]'(by omega)).2.1 (l[k - 1]'(by omega)).2.2 l[k].1 l[k].2.1 l[k].2.2 with _ | _
        · have HN : Hid (debtsB l = false) := debts_no (dbB_bad _ (k + 1) (by rw [HT.out, HO.out, hkk, hss, hls, decide_eq_false (by omega)]; rfl))
          go_wp2
          refine region_over (by kernel_rfl) (by kernel_rfl) ?_
          repeat (go_big_quiet_step (first | (go_at_call 47; exact quiet_over_same (bool_is hkk (isKey_impl _ _))) | (go_at_call 48; exact quiet_over (bool_is hss (stampOk_impl _ _ _))) | (go_at_call 114; exact quiet_over (bool_is hls (depLess_impl _ _ _ _ _ _ _)))))
          refine wpQuiet_nil ?_
          intro w9 hb9
          have G1 := below_after G0 hb9
          go_wp2
          go_ret
          exact ⟨by rw [HN.out]; rfl, G1⟩
        · have HN : Hid (dbB (l.take (k + 1)) = true) := by show _ = _; rw [HT.out, HO.out, hkk, hss, hls, Bool.or_true]; rfl
          go_wp2
          refine region_over (by kernel_rfl) (by kernel_rfl) ?_
          repeat (go_big_quiet_step (first | (go_at_call 47; exact quiet_over_same (bool_is hkk (isKey_impl _ _))) | (go_at_call 48; exact quiet_over (bool_is hss (stampOk_impl _ _ _))) | (go_at_call 114; exact quiet_over (bool_is hls (depLess_impl _ _ _ _ _ _ _)))))
          refine wpQuiet_nil ?_
          intro w9 hb9
          have G1 := below_after G0 hb9
          go_wp2
          go_roundw
          case rel => exact ⟨k + 1, by omega, by go_num, HN.out, G1⟩
          case measure => simp [intOf]; omega
      · have h00 : (k : Int) ≤ 0 := by omega
        have HN : Hid (dbB (l.take (k + 1)) = true) := by show _ = _; rw [HT.out, HO.out, hkk, hss, decide_eq_true (by omega)]; rfl
        clear hcell h3 g0 g1 g2
        go_wp2
        refine region_over (by kernel_rfl) (by kernel_rfl) ?_
        repeat (go_big_quiet_step (first | (go_at_call 47; exact quiet_over_same (bool_is hkk (isKey_impl _ _))) | (go_at_call 48; exact quiet_over (bool_is hss (stampOk_impl _ _ _)))))
        refine wpQuiet_nil ?_
        intro w9 hb9
        have G1 := below_after G0 hb9
        go_wp2
        go_roundw
        case rel => exact ⟨k + 1, by omega, by go_num, HN.out, G1⟩
        case measure => simp [intOf]; omega
    · obtain rfl : k = l.length := by omega
      have HO : Hid (dbB l = true) := by have := HO.out; rwa [List.take_length] at this
      by_cases hlong : (l.length : Int) ≤ 80
      · have HN := Lib.hid (debts_yes HO.out (by omega))
        go_wp2
        go_ret
        exact ⟨by rw [HN.out]; rfl, hBw⟩
      · have HN := Lib.hid (debts_long (l := l) (by omega))
        have hlong' : decide ((l.length : Int) ≤ 80) = false := decide_eq_false hlong
        clear hlong
        go_wp2
        go_ret
        exact ⟨by rw [HN.out]; rfl, hBw⟩

set_option maxRecDepth 100000 in
set_option maxHeartbeats 4000000 in
theorem debts_spec (l : List Dp) (a : Option Addr) (c : Nat) (w : World) (hr : Reads w a l.length c (dpsC l)) (hl : l.length ≤ 1048577) :
    Calls Try.prog 71 #[.slice a l.length c] w (Says (debtsB l) w) := by
  by_cases hlong : (80 : Int) < (l.length : Int)
  · have HN := Lib.hid (debts_long (l := l) (by omega))
    go_enter Try.func71, Try.ntmps71
    go_wp2
    go_ret
    exact ⟨by rw [HN.out]; rfl, Below.refl _ _⟩
  have hshort : (l.length : Int) ≤ 80 := by omega
  clear hlong
  go_enter Try.func71, Try.ntmps71
  go_wp2
  go_loopw [3, 4] (fun i _ wr => ∃ k : Nat, k ≤ l.length ∧ i = .int .i64 k ∧ dbB (l.take k) = true ∧ Below w.heap.size w wr) (fun i _ _ => l.length - (intOf i).toNat)
  case atStart => exact ⟨0, Nat.zero_le _, rfl, rfl, Below.refl _ _⟩
  case round =>
    obtain ⟨k, hk, rfl, hok, hBw⟩ := hrel
    have HO := Lib.hid hok
    clear hok
    by_cases hlt : k < l.length
    · have hr0 := hr.below hBw
      have HT := Lib.hid (dbB_take l k hlt)
      have hi0 : (0 : Int) ≤ (k : Int) := by omega
      have hi1 : (k : Int) < (l.length : Int) := by omega
      obtain ⟨_, _, h3⟩ := hr0
      obtain ⟨b, off, rfl, hbl, hcell⟩ := h3 (dpsC_ne (by omega))
      obtain ⟨g0, g1, g2⟩ := dpsC_get l k hlt
      obtain ⟨c0, c1, c2, _⟩ := cells3 (Below.refl _ wr) hbl (hcell _ _ g0) (hcell _ _ g1) (hcell _ _ g2)
      rw [← Nat.add_assoc] at c1 c2
      have hbx := below_box wr (.cells #[.int .i64 l[k].1, .int .i64 l[k].2.1, .int .i64 l[k].2.2] 32)
      obtain ⟨y0, y1, y2, hbl1⟩ := cells3 hbx hbl c0 c1 c2
      have BE := Blk.new wr #[.int .i64 l[k].1, .int .i64 l[k].2.1, .int .i64 l[k].2.2] 32
      obtain ⟨e0, e1, e2, ef, el⟩ := BE.three
      have G0 := below_after hBw hbx
      rcases hkk : inB l[k].1 0 5 with _ | _
      · have HN : Hid (debtsB l = false) := debts_no (dbB_bad _ (k + 1) (by rw [HT.out, HO.out, hkk]; rfl))
        clear hcell h3 g0 g1 g2
        go_wp2
        refine region_over (by kernel_rfl) (by kernel_rfl) ?_
        repeat (go_big_quiet_step (first | (go_at_call 52; exact quiet_over_same (bool_is hkk (isKey_spec _ _)))))
        refine wpQuiet_nil ?_
        intro w9 hb9
        have G1 := below_after G0 hb9
        go_wp2
        go_ret
        exact ⟨by rw [HN.out]; rfl, G1⟩
      rcases hss : stampOkB l[k].2.1 l[k].2.2 with _ | _
      · have HN : Hid (debtsB l = false) := debts_no (dbB_bad _ (k + 1) (by rw [HT.out, HO.out, hkk, hss]; rfl))
        clear hcell h3 g0 g1 g2
        go_wp2
        refine region_over (by kernel_rfl) (by kernel_rfl) ?_
        repeat (go_big_quiet_step (first | (go_at_call 52; exact quiet_over_same (bool_is hkk (isKey_spec _ _))) | (go_at_call 53; exact quiet_over (bool_is hss (stampOk_spec _ _ _)))))
        refine wpQuiet_nil ?_
        intro w9 hb9
        have G1 := below_after G0 hb9
        go_wp2
        go_ret
        exact ⟨by rw [HN.out]; rfl, G1⟩
      by_cases h0 : 0 < k
      · have h00 : (0 : Int) < (k : Int) := by omega
        have hj0 : (0 : Int) ≤ (k : Int) - 1 := by omega
        have hj1 : (k : Int) - 1 < (l.length : Int) := by omega
        obtain ⟨f0, f1, f2⟩ := dpsC_get l (k - 1) (by omega)
        obtain ⟨d0, d1, d2, _⟩ := cells3 (Below.refl _ wr) hbl (hcell _ _ f0) (hcell _ _ f1) (hcell _ _ f2)
        rw [← Nat.add_assoc] at d1 d2
        obtain ⟨z0, z1, z2, _⟩ := cells3 hbx hbl d0 d1 d2
        clear hcell h3 g0 g1 g2 f0 f1 f2
        rcases Int.lt_trichotomy (l[k - 1]'(by omega)).1 l[k].1 with h1 | h1 | h1
        · have HN : Hid (dbB (l.take (k + 1)) = true) := by show _ = _; rw [HT.out, HO.out, hkk, hss, show depLessB _ _ _ _ _ _ = true from by simp [depLessB, h1], Bool.or_true]; rfl
          have h2 : (l[k - 1]'(by omega)).1 ≤ l[k].1 := by omega
          have h2' : decide (l[k].1 < (l[k - 1]'(by omega)).1) = false := decide_eq_false (by omega)
          have h3 : ((l[k - 1]'(by omega)).1 == l[k].1) = false := by simp only [beq_eq_false_iff_ne, ne_eq]; omega
          clear h1
          go_wp2
          refine region_over (by kernel_rfl) (by kernel_rfl) ?_
          repeat (go_big_quiet_step (first | (go_at_call 52; exact quiet_over_same (bool_is hkk (isKey_spec _ _))) | (go_at_call 53; exact quiet_over (bool_is hss (stampOk_spec _ _ _)))))
          refine wpQuiet_nil ?_
          intro w9 hb9
          have G1 := below_after G0 hb9
          go_wp2
          go_roundw
          case rel => exact ⟨k + 1, by omega, by go_num, HN.out, G1⟩
          case measure => simp [intOf]; omega
        · have h2 : (l[k - 1]'(by omega)).1 ≤ l[k].1 := by omega
          have h2' : decide (l[k].1 < (l[k - 1]'(by omega)).1) = false := decide_eq_false (by omega)
          have h3 : ((l[k - 1]'(by omega)).1 == l[k].1) = true := by simpa using h1
          rcases hls : stampLessB (l[k - 1]'(by omega)).2.1 (l[k - 1]'(by omega)).2.2 l[k].2.1 l[k].2.2 with _ | _
          · have HN : Hid (debtsB l = false) := debts_no (dbB_bad _ (k + 1) (by rw [HT.out, HO.out, hkk, hss, show depLessB _ _ _ _ _ _ = false from by simp [depLessB, h1, hls], decide_eq_false (by omega)]; rfl))
            clear h1
            go_wp2
            refine region_over (by kernel_rfl) (by kernel_rfl) ?_
            repeat (go_big_quiet_step (first | (go_at_call 52; exact quiet_over_same (bool_is hkk (isKey_spec _ _))) | (go_at_call 53; exact quiet_over (bool_is hss (stampOk_spec _ _ _))) | (go_at_call 92; exact quiet_over (bool_is hls (stampLess_spec _ _ _ _ _)))))
            refine wpQuiet_nil ?_
            intro w9 hb9
            have G1 := below_after G0 hb9
            go_wp2
            go_ret
            exact ⟨by rw [HN.out]; rfl, G1⟩
          · have HN : Hid (dbB (l.take (k + 1)) = true) := by show _ = _; rw [HT.out, HO.out, hkk, hss, show depLessB _ _ _ _ _ _ = true from by simp [depLessB, h1, hls], Bool.or_true]; rfl
            clear h1
            go_wp2
            refine region_over (by kernel_rfl) (by kernel_rfl) ?_
            repeat (go_big_quiet_step (first | (go_at_call 52; exact quiet_over_same (bool_is hkk (isKey_spec _ _))) | (go_at_call 53; exact quiet_over (bool_is hss (stampOk_spec _ _ _))) | (go_at_call 92; exact quiet_over (bool_is hls (stampLess_spec _ _ _ _ _)))))
            refine wpQuiet_nil ?_
            intro w9 hb9
            have G1 := below_after G0 hb9
            go_wp2
            go_roundw
            case rel => exact ⟨k + 1, by omega, by go_num, HN.out, G1⟩
            case measure => simp [intOf]; omega
        · have h1' : decide (l[k].1 < (l[k - 1]'(by omega)).1) = true := decide_eq_true h1
          have hn1 : ¬ (l[k - 1]'(by omega)).1 < l[k].1 := by omega
          have hn2 : ¬ (l[k - 1]'(by omega)).1 = l[k].1 := by omega
          have HN : Hid (debtsB l = false) := debts_no (dbB_bad _ (k + 1) (by rw [HT.out, HO.out, hkk, hss, show depLessB _ _ _ _ _ _ = false from by simp [depLessB, hn1, hn2], decide_eq_false (by omega)]; rfl))
          clear hn1 hn2
          go_wp2
          refine region_over (by kernel_rfl) (by kernel_rfl) ?_
          repeat (go_big_quiet_step (first | (go_at_call 52; exact quiet_over_same (bool_is hkk (isKey_spec _ _))) | (go_at_call 53; exact quiet_over (bool_is hss (stampOk_spec _ _ _)))))
          refine wpQuiet_nil ?_
          intro w9 hb9
          have G1 := below_after G0 hb9
          go_wp2
          go_ret
          exact ⟨by rw [HN.out]; rfl, G1⟩
      · have h00 : (k : Int) ≤ 0 := by omega
        have HN : Hid (dbB (l.take (k + 1)) = true) := by show _ = _; rw [HT.out, HO.out, hkk, hss, decide_eq_true (by omega)]; rfl
        clear hcell h3 g0 g1 g2
        go_wp2
        refine region_over (by kernel_rfl) (by kernel_rfl) ?_
        repeat (go_big_quiet_step (first | (go_at_call 52; exact quiet_over_same (bool_is hkk (isKey_spec _ _))) | (go_at_call 53; exact quiet_over (bool_is hss (stampOk_spec _ _ _)))))
        refine wpQuiet_nil ?_
        intro w9 hb9
        have G1 := below_after G0 hb9
        go_wp2
        go_roundw
        case rel => exact ⟨k + 1, by omega, by go_num, HN.out, G1⟩
        case measure => simp [intOf]; omega
    · obtain rfl : k = l.length := by omega
      have HO : Hid (dbB l = true) := by have := HO.out; rwa [List.take_length] at this
      have HN := Lib.hid (debts_yes HO.out (by omega))
      go_wp2
      go_ret
      exact ⟨by rw [HN.out]; rfl, hBw⟩

set_option maxRecDepth 100000 in
set_option maxHeartbeats 8000000 in
theorem WordOk_impl (x : Mw) (w : World) (hin : WordIn w x) (hf : FewW x) (hfr : -9223372036854775808 ≤ x.frm ∧ x.frm ≤ 9223372036854775807) (hto : -9223372036854775808 ≤ x.to ∧ x.to ≤ 9223372036854775807) :
    Calls Try.prog 25 #[.agg #[.int .i64 x.kind, .int .i64 x.frm, .int .i64 x.to, .int .i64 x.call, .int .i64 x.key, .int .i64 x.time, .int .i64 x.site, .int .i64 x.val, .bool x.yes, .slice x.da x.deps.length x.dc, .int .i64 x.slot, .int .i64 x.epoch, .slice x.va x.vers.length x.vc, .slice x.wa x.waits.length x.wc, .slice x.oa x.owes.length x.oc]] w (Says (wordOkB x) w) := by
  have BV := Blk.new w #[.int .i64 x.kind, .int .i64 x.frm, .int .i64 x.to, .int .i64 x.call, .int .i64 x.key, .int .i64 x.time, .int .i64 x.site, .int .i64 x.val, .bool x.yes, .slice x.da x.deps.length x.dc, .int .i64 x.slot, .int .i64 x.epoch, .slice x.va x.vers.length x.vc, .slice x.wa x.waits.length x.wc, .slice x.oa x.owes.length x.oc] 48
  have G0 := below_box w (.cells #[.int .i64 x.kind, .int .i64 x.frm, .int .i64 x.to, .int .i64 x.call, .int .i64 x.key, .int .i64 x.time, .int .i64 x.site, .int .i64 x.val, .bool x.yes, .slice x.da x.deps.length x.dc, .int .i64 x.slot, .int .i64 x.epoch, .slice x.va x.vers.length x.vc, .slice x.wa x.waits.length x.wc, .slice x.oa x.owes.length x.oc] 48)
  obtain ⟨p0, p1, p2, p3, p4, p5, p6, p7, p8, p9, p10, p11, p12, p13, p14, pf, pl⟩ := BV.word
  go_enter Try.func25, Try.ntmps25
  go_wp2_with fail
  refine (in_impl _ _ _ _).mono ?_
  rintro e w' ⟨rfl, rfl⟩
  rcases h0 : inB x.kind 1 10 with _ | _
  · have HB : Hid (wordOkB x = false) := by show _ = _; simp [wordOkB, h0]
    go_wp2
    go_ret
    exact ⟨by rw [HB.out]; rfl, G0⟩
  go_wp2_with fail
  refine (isAddress_impl _ _ hfr).mono ?_
  rintro e w' ⟨rfl, rfl⟩
  rcases h1 : addrB x.frm with _ | _
  · have HB : Hid (wordOkB x = false) := by show _ = _; simp [wordOkB, h0, h1]
    go_wp2
    go_ret
    exact ⟨by rw [HB.out]; rfl, G0⟩
  go_wp2_with fail
  refine (isAddress_impl _ _ hto).mono ?_
  rintro e w' ⟨rfl, rfl⟩
  rcases h2 : addrB x.to with _ | _
  · have HB : Hid (wordOkB x = false) := by show _ = _; simp [wordOkB, h0, h1, h2]
    go_wp2
    go_ret
    exact ⟨by rw [HB.out]; rfl, G0⟩
  go_wp2_with fail
  refine (in_impl _ _ _ _).mono ?_
  rintro e w' ⟨rfl, rfl⟩
  rcases h3 : inB x.call 0 99 with _ | _
  · have HB : Hid (wordOkB x = false) := by show _ = _; simp [wordOkB, h0, h1, h2, h3]
    go_wp2
    go_ret
    exact ⟨by rw [HB.out]; rfl, G0⟩
  go_wp2_with fail
  refine (isKey_impl _ _).mono ?_
  rintro e w' ⟨rfl, rfl⟩
  rcases h4 : inB x.key 0 5 with _ | _
  · have HB : Hid (wordOkB x = false) := by show _ = _; simp [wordOkB, h0, h1, h2, h3, h4]
    go_wp2
    go_ret
    exact ⟨by rw [HB.out]; rfl, G0⟩
  go_wp2_with fail
  refine (fits_impl _ _ _).mono ?_
  rintro e w6 ⟨rfl, hb5⟩
  have BV := BV.below hb5 BV.lt
  have G0 := below_after G0 hb5
  clear p0 p1 p2 p3 p4 p5 p6 p7 p8 p9 p10 p11 p12 p13 p14 pf pl
  obtain ⟨p0, p1, p2, p3, p4, p5, p6, p7, p8, p9, p10, p11, p12, p13, p14, pf, pl⟩ := BV.word
  rcases h5 : fitsB x.time x.site with _ | _
  · have HB : Hid (wordOkB x = false) := by show _ = _; simp [wordOkB, h0, h1, h2, h3, h4, h5]
    go_wp2
    go_ret
    exact ⟨by rw [HB.out]; rfl, G0⟩
  go_wp2_with fail
  refine (in_impl _ _ _ _).mono ?_
  rintro e w' ⟨rfl, rfl⟩
  rcases h6 : inB x.val 0 9999 with _ | _
  · have HB : Hid (wordOkB x = false) := by show _ = _; simp [wordOkB, h0, h1, h2, h3, h4, h5, h6]
    go_wp2
    go_ret
    exact ⟨by rw [HB.out]; rfl, G0⟩
  go_wp2_with fail
  refine (depsOk_impl x.deps x.da x.dc _ (hin.dp.below G0) hf.dp).mono ?_
  rintro e w8 ⟨rfl, hb7⟩
  have BV := BV.below hb7 BV.lt
  have G0 := below_after G0 hb7
  clear p0 p1 p2 p3 p4 p5 p6 p7 p8 p9 p10 p11 p12 p13 p14 pf pl
  obtain ⟨p0, p1, p2, p3, p4, p5, p6, p7, p8, p9, p10, p11, p12, p13, p14, pf, pl⟩ := BV.word
  rcases h7 : depsOkB x.deps with _ | _
  · have HB : Hid (wordOkB x = false) := by show _ = _; simp [wordOkB, h0, h1, h2, h3, h4, h5, h6, h7]
    go_wp2
    go_ret
    exact ⟨by rw [HB.out]; rfl, G0⟩
  go_wp2_with fail
  refine (in_impl _ _ _ _).mono ?_
  rintro e w' ⟨rfl, rfl⟩
  rcases h8 : inB x.slot 0 2 with _ | _
  · have HB : Hid (wordOkB x = false) := by show _ = _; simp [wordOkB, h0, h1, h2, h3, h4, h5, h6, h7, h8]
    go_wp2
    go_ret
    exact ⟨by rw [HB.out]; rfl, G0⟩
  go_wp2_with fail
  refine (in_impl _ _ _ _).mono ?_
  rintro e w' ⟨rfl, rfl⟩
  rcases h9 : inB x.epoch 0 9999 with _ | _
  · have HB : Hid (wordOkB x = false) := by show _ = _; simp [wordOkB, h0, h1, h2, h3, h4, h5, h6, h7, h8, h9]
    go_wp2
    go_ret
    exact ⟨by rw [HB.out]; rfl, G0⟩
  go_wp2_with fail
  refine (ChainOk_impl x.vers x.va x.vc _ (hin.vr.below G0) hf.vr).mono ?_
  rintro e w11 ⟨rfl, hb10⟩
  have BV := BV.below hb10 BV.lt
  have G0 := below_after G0 hb10
  clear p0 p1 p2 p3 p4 p5 p6 p7 p8 p9 p10 p11 p12 p13 p14 pf pl
  obtain ⟨p0, p1, p2, p3, p4, p5, p6, p7, p8, p9, p10, p11, p12, p13, p14, pf, pl⟩ := BV.word
  rcases h10 : chainOkB (vs x.vers) with _ | _
  · have HB : Hid (wordOkB x = false) := by show _ = _; simp [wordOkB, h0, h1, h2, h3, h4, h5, h6, h7, h8, h9, h10]
    go_wp2
    go_ret
    exact ⟨by rw [HB.out]; rfl, G0⟩
  go_wp2_with fail
  refine (ChainOk_impl x.waits x.wa x.wc _ (hin.wt.below G0) hf.wt).mono ?_
  rintro e w12 ⟨rfl, hb11⟩
  have BV := BV.below hb11 BV.lt
  have G0 := below_after G0 hb11
  clear p0 p1 p2 p3 p4 p5 p6 p7 p8 p9 p10 p11 p12 p13 p14 pf pl
  obtain ⟨p0, p1, p2, p3, p4, p5, p6, p7, p8, p9, p10, p11, p12, p13, p14, pf, pl⟩ := BV.word
  rcases h11 : chainOkB (vs x.waits) with _ | _
  · have HB : Hid (wordOkB x = false) := by show _ = _; simp [wordOkB, h0, h1, h2, h3, h4, h5, h6, h7, h8, h9, h10, h11]
    go_wp2
    go_ret
    exact ⟨by rw [HB.out]; rfl, G0⟩
  go_wp2_with fail
  refine (debts_impl x.owes x.oa x.oc _ (hin.ow.below G0) hf.ow).mono ?_
  rintro e w13 ⟨rfl, hb12⟩
  have BV := BV.below hb12 BV.lt
  have G0 := below_after G0 hb12
  clear p0 p1 p2 p3 p4 p5 p6 p7 p8 p9 p10 p11 p12 p13 p14 pf pl
  obtain ⟨p0, p1, p2, p3, p4, p5, p6, p7, p8, p9, p10, p11, p12, p13, p14, pf, pl⟩ := BV.word
  have HB : Hid (wordOkB x = debtsB x.owes) := by show _ = _; simp [wordOkB, h0, h1, h2, h3, h4, h5, h6, h7, h8, h9, h10, h11]
  go_wp2
  go_ret
  exact ⟨by rw [HB.out]; rfl, G0⟩
end Go.Proofs.Ythciikogogkfcaa
