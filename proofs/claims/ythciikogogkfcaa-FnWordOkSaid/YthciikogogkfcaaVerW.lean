/- A version's validity: the program's function and the reference's give what the plain function gives. -/
import Derived.Test.YthciikogogkfcaaVerP
import Derived.Test.YthciikogogkfcaaDepsW
namespace Go.Proofs.Ythciikogogkfcaa
open Go.RowKit Go.Deep
set_option linter.unusedVariables false

theorem isClient_impl (n : Int) (w : World) :
    Calls Try.prog 50 #[.int .i64 n] w fun e w' => e = .returned (.bool (inB n 0 1)) ∧ w = w' := by
  go_enter Try.func50, Try.ntmps50
  go_wp2_with fail
  refine (in_impl _ _ _ _).mono ?_
  rintro e w' ⟨rfl, rfl⟩
  go_wp2
  go_ret
  exact ⟨rfl, rfl⟩

set_option maxHeartbeats 2000000 in
theorem VerOk_impl (v : Vp) (a : Option Addr) (c : Nat) (w : World) (hd : Reads w a v.deps.length c (dpsC v.deps)) (hl : v.deps.length ≤ 1048577) :
    Calls Try.prog 11 #[.agg #[.int .i64 v.key, .int .i64 v.time, .int .i64 v.site, .int .i64 v.val, .int .i64 v.client, .int .i64 v.call, .slice a v.deps.length c]] w (Says (verOkB v) w) := by
  have BV := Blk.new w #[.int .i64 v.key, .int .i64 v.time, .int .i64 v.site, .int .i64 v.val, .int .i64 v.client, .int .i64 v.call, .slice a v.deps.length c] 27
  have G0 := below_box w (.cells #[.int .i64 v.key, .int .i64 v.time, .int .i64 v.site, .int .i64 v.val, .int .i64 v.client, .int .i64 v.call, .slice a v.deps.length c] 27)
  go_enter Try.func11, Try.ntmps11
  obtain ⟨p00, p01, p02, p03, p04, p05, p06, p0f, p0l⟩ := BV.seven
  go_wp2_with fail
  refine (isKey_impl _ _).mono ?_
  rintro e w' ⟨rfl, rfl⟩
  rcases h0 : inB v.key 0 5 with _ | _
  · have HB : Hid (verOkB v = false) := by show _ = _; simp [verOkB, headOkB, h0]
    go_wp2
    go_ret
    exact ⟨by rw [HB.out]; rfl, G0⟩
  obtain ⟨p10, p11, p12, p13, p14, p15, p16, p1f, p1l⟩ := BV.seven
  go_wp2_with fail
  refine (stampOk_impl _ _ _).mono ?_
  rintro e w2 ⟨rfl, hb1⟩
  have BV := BV.below hb1 BV.lt
  have G0 := below_after G0 hb1
  rcases h1 : stampOkB v.time v.site with _ | _
  · have HB : Hid (verOkB v = false) := by show _ = _; simp [verOkB, headOkB, h0, h1]
    go_wp2
    go_ret
    exact ⟨by rw [HB.out]; rfl, G0⟩
  obtain ⟨p20, p21, p22, p23, p24, p25, p26, p2f, p2l⟩ := BV.seven
  go_wp2_with fail
  refine (in_impl _ _ _ _).mono ?_
  rintro e w' ⟨rfl, rfl⟩
  rcases h2 : inB v.val 0 9999 with _ | _
  · have HB : Hid (verOkB v = false) := by show _ = _; simp [verOkB, headOkB, h0, h1, h2]
    go_wp2
    go_ret
    exact ⟨by rw [HB.out]; rfl, G0⟩
  obtain ⟨p30, p31, p32, p33, p34, p35, p36, p3f, p3l⟩ := BV.seven
  go_wp2_with fail
  refine (isClient_impl _ _).mono ?_
  rintro e w' ⟨rfl, rfl⟩
  rcases h3 : inB v.client 0 1 with _ | _
  · have HB : Hid (verOkB v = false) := by show _ = _; simp [verOkB, headOkB, h0, h1, h2, h3]
    go_wp2
    go_ret
    exact ⟨by rw [HB.out]; rfl, G0⟩
  obtain ⟨p40, p41, p42, p43, p44, p45, p46, p4f, p4l⟩ := BV.seven
  go_wp2_with fail
  refine (in_impl _ _ _ _).mono ?_
  rintro e w' ⟨rfl, rfl⟩
  rcases h4 : inB v.call 1 99 with _ | _
  · have HB : Hid (verOkB v = false) := by show _ = _; simp [verOkB, headOkB, h0, h1, h2, h3, h4]
    go_wp2
    go_ret
    exact ⟨by rw [HB.out]; rfl, G0⟩
  obtain ⟨p50, p51, p52, p53, p54, p55, p56, p5f, p5l⟩ := BV.seven
  go_wp2_with fail
  refine (depsOk_impl v.deps a c _ (hd.below G0) hl).mono ?_
  rintro e w6 ⟨rfl, hb5⟩
  have BV := BV.below hb5 BV.lt
  have G0 := below_after G0 hb5
  rcases h5 : depsOkB v.deps with _ | _
  · have HB : Hid (verOkB v = false) := by show _ = _; simp [verOkB, headOkB, h0, h1, h2, h3, h4, h5]
    go_wp2
    go_ret
    exact ⟨by rw [HB.out]; rfl, G0⟩
  have HV : Hid (verOkB v = olderB v.time v.deps) := by show _ = _; simp [verOkB, headOkB, h0, h1, h2, h3, h4, h5]
  clear h0 h1 h2 h3 h4 h5
  obtain ⟨q0, q1, q2, q3, q4, q5, q6, qf, ql⟩ := BV.seven
  go_wp2
  go_loopw [42] (fun i wr => ∃ k : Nat, k ≤ v.deps.length ∧ i = .int .i64 k ∧ olderB v.time (v.deps.take k) = true ∧ Blk wr w.heap.size #[.int .i64 v.key, .int .i64 v.time, .int .i64 v.site, .int .i64 v.val, .int .i64 v.client, .int .i64 v.call, .slice a v.deps.length c] 27 ∧ Below w.heap.size w wr) (fun i _ => v.deps.length - (intOf i).toNat)
  case atStart => exact ⟨0, Nat.zero_le _, rfl, by simp [olderB], BV, G0⟩
  case round =>
    obtain ⟨k, hk, rfl, hok, BV, hBw⟩ := hrel
    obtain ⟨r0, r1, r2, r3, r4, r5, r6, rf, rl⟩ := BV.seven
    by_cases hlt : k < v.deps.length
    · obtain ⟨_, _, h3⟩ := hd
      obtain ⟨b, off, rfl, hob, hcell⟩ := h3 (dpsC_ne (by omega))
      obtain ⟨g0, g1, g2⟩ := dpsC_get v.deps k hlt
      obtain ⟨c0, c1, c2, hbl⟩ := cells3 hBw hob (hcell _ _ g0) (hcell _ _ g1) (hcell _ _ g2)
      rw [← Nat.add_assoc] at c1 c2
      have HT := Lib.hid (olderB_take v.time v.deps k hlt)
      have HO := Lib.hid hok
      have hi0 : (0 : Int) ≤ (k : Int) := by omega
      have hi1 : (k : Int) < (v.deps.length : Int) := by omega
      clear hcell h3 g0 g1 g2 hok
      by_cases hs : v.deps[k].2.1 < v.time
      · have HN : Hid (olderB v.time (v.deps.take (k + 1)) = true) := by show _ = _; rw [HT.out, HO.out, decide_eq_true hs]; rfl
        have BV := BV.alloc (.cells #[.int .i64 v.deps[k].1, .int .i64 v.deps[k].2.1, .int .i64 v.deps[k].2.2] 32)
        obtain ⟨s0, s1, s2, s3, s4, s5, s6, sf, sl⟩ := BV.seven
        have E1 := Blk.new wr #[.int .i64 v.deps[k].1, .int .i64 v.deps[k].2.1, .int .i64 v.deps[k].2.2] 32
        obtain ⟨t0, t1, t2, tf, tl⟩ := E1.three
        have G1 := below_alloc hBw (.cells #[.int .i64 v.deps[k].1, .int .i64 v.deps[k].2.1, .int .i64 v.deps[k].2.2] 32)
        go_wp2
        go_roundw
        case rel => exact ⟨k + 1, by omega, by go_num, HN.out, BV, G1⟩
        case measure => simp [intOf]; omega
      · have HN := Lib.hid (olderB_bad (t := v.time) k hlt (by omega))
        have hs' : v.time ≤ v.deps[k].2.1 := by omega
        clear hs
        have BV := BV.alloc (.cells #[.int .i64 v.deps[k].1, .int .i64 v.deps[k].2.1, .int .i64 v.deps[k].2.2] 32)
        obtain ⟨s0, s1, s2, s3, s4, s5, s6, sf, sl⟩ := BV.seven
        have E1 := Blk.new wr #[.int .i64 v.deps[k].1, .int .i64 v.deps[k].2.1, .int .i64 v.deps[k].2.2] 32
        obtain ⟨t0, t1, t2, tf, tl⟩ := E1.three
        have G1 := below_alloc hBw (.cells #[.int .i64 v.deps[k].1, .int .i64 v.deps[k].2.1, .int .i64 v.deps[k].2.2] 32)
        go_wp2
        go_ret
        exact ⟨by rw [HV.out, HN.out]; rfl, G1⟩
    · obtain rfl : k = v.deps.length := by omega
      rw [List.take_length] at hok
      have HO := Lib.hid hok
      clear hok
      go_wp2
      go_ret
      exact ⟨by rw [HV.out, HO.out]; rfl, hBw⟩

set_option maxHeartbeats 2000000 in
theorem VerOk_spec (v : Vp) (a : Option Addr) (c : Nat) (w : World) (hd : Reads w a v.deps.length c (dpsC v.deps)) (hl : v.deps.length ≤ 1048577) :
    Calls Try.prog 12 #[.agg #[.int .i64 v.key, .int .i64 v.time, .int .i64 v.site, .int .i64 v.val, .int .i64 v.client, .int .i64 v.call, .slice a v.deps.length c]] w (Says (verOkB v) w) := by
  have BV := Blk.new w #[.int .i64 v.key, .int .i64 v.time, .int .i64 v.site, .int .i64 v.val, .int .i64 v.client, .int .i64 v.call, .slice a v.deps.length c] 27
  have G0 := below_box w (.cells #[.int .i64 v.key, .int .i64 v.time, .int .i64 v.site, .int .i64 v.val, .int .i64 v.client, .int .i64 v.call, .slice a v.deps.length c] 27)
  go_enter Try.func12, Try.ntmps12
  obtain ⟨p00, p01, p02, p03, p04, p05, p06, p0f, p0l⟩ := BV.seven
  go_wp2_with fail
  refine (isKey_spec _ _).mono ?_
  rintro e w' ⟨rfl, rfl⟩
  rcases h0 : inB v.key 0 5 with _ | _
  · have HB : Hid (verOkB v = false) := by show _ = _; simp [verOkB, headOkB, h0]
    go_wp2
    go_ret
    exact ⟨by rw [HB.out]; rfl, G0⟩
  obtain ⟨p10, p11, p12, p13, p14, p15, p16, p1f, p1l⟩ := BV.seven
  go_wp2_with fail
  refine (stampOk_spec _ _ _).mono ?_
  rintro e w2 ⟨rfl, hb1⟩
  have BV := BV.below hb1 BV.lt
  have G0 := below_after G0 hb1
  rcases h1 : stampOkB v.time v.site with _ | _
  · have HB : Hid (verOkB v = false) := by show _ = _; simp [verOkB, headOkB, h0, h1]
    go_wp2
    go_ret
    exact ⟨by rw [HB.out]; rfl, G0⟩
  obtain ⟨p20, p21, p22, p23, p24, p25, p26, p2f, p2l⟩ := BV.seven
  go_wp2_with fail
  refine (in_spec _ _ _ _).mono ?_
  rintro e w' ⟨rfl, rfl⟩
  rcases h2 : inB v.val 0 9999 with _ | _
  · have HB : Hid (verOkB v = false) := by show _ = _; simp [verOkB, headOkB, h0, h1, h2]
    go_wp2
    go_ret
    exact ⟨by rw [HB.out]; rfl, G0⟩
  obtain ⟨p30, p31, p32, p33, p34, p35, p36, p3f, p3l⟩ := BV.seven
  go_wp2_with fail
  refine (in_spec _ _ _ _).mono ?_
  rintro e w' ⟨rfl, rfl⟩
  rcases h3 : inB v.client 0 1 with _ | _
  · have HB : Hid (verOkB v = false) := by show _ = _; simp [verOkB, headOkB, h0, h1, h2, h3]
    go_wp2
    go_ret
    exact ⟨by rw [HB.out]; rfl, G0⟩
  obtain ⟨p40, p41, p42, p43, p44, p45, p46, p4f, p4l⟩ := BV.seven
  go_wp2_with fail
  refine (in_spec _ _ _ _).mono ?_
  rintro e w' ⟨rfl, rfl⟩
  rcases h4 : inB v.call 1 99 with _ | _
  · have HB : Hid (verOkB v = false) := by show _ = _; simp [verOkB, headOkB, h0, h1, h2, h3, h4]
    go_wp2
    go_ret
    exact ⟨by rw [HB.out]; rfl, G0⟩
  obtain ⟨p50, p51, p52, p53, p54, p55, p56, p5f, p5l⟩ := BV.seven
  go_wp2_with fail
  refine (depsOk_spec v.deps a c _ (hd.below G0) hl).mono ?_
  rintro e w6 ⟨rfl, hb5⟩
  have BV := BV.below hb5 BV.lt
  have G0 := below_after G0 hb5
  rcases h5 : depsOkB v.deps with _ | _
  · have HB : Hid (verOkB v = false) := by show _ = _; simp [verOkB, headOkB, h0, h1, h2, h3, h4, h5]
    go_wp2
    go_ret
    exact ⟨by rw [HB.out]; rfl, G0⟩
  have HV : Hid (verOkB v = olderB v.time v.deps) := by show _ = _; simp [verOkB, headOkB, h0, h1, h2, h3, h4, h5]
  clear h0 h1 h2 h3 h4 h5
  obtain ⟨q0, q1, q2, q3, q4, q5, q6, qf, ql⟩ := BV.seven
  go_wp2
  go_loopw [3] (fun i wr => ∃ k : Nat, k ≤ v.deps.length ∧ i = .int .i64 k ∧ olderB v.time (v.deps.take k) = true ∧ Blk wr w.heap.size #[.int .i64 v.key, .int .i64 v.time, .int .i64 v.site, .int .i64 v.val, .int .i64 v.client, .int .i64 v.call, .slice a v.deps.length c] 27 ∧ Below w.heap.size w wr) (fun i _ => v.deps.length - (intOf i).toNat)
  case atStart => exact ⟨0, Nat.zero_le _, rfl, by simp [olderB], BV, G0⟩
  case round =>
    obtain ⟨k, hk, rfl, hok, BV, hBw⟩ := hrel
    obtain ⟨r0, r1, r2, r3, r4, r5, r6, rf, rl⟩ := BV.seven
    by_cases hlt : k < v.deps.length
    · obtain ⟨_, _, h3⟩ := hd
      obtain ⟨b, off, rfl, hob, hcell⟩ := h3 (dpsC_ne (by omega))
      obtain ⟨g0, g1, g2⟩ := dpsC_get v.deps k hlt
      obtain ⟨c0, c1, c2, hbl⟩ := cells3 hBw hob (hcell _ _ g0) (hcell _ _ g1) (hcell _ _ g2)
      rw [← Nat.add_assoc] at c1 c2
      have HT := Lib.hid (olderB_take v.time v.deps k hlt)
      have HO := Lib.hid hok
      have hi0 : (0 : Int) ≤ (k : Int) := by omega
      have hi1 : (k : Int) < (v.deps.length : Int) := by omega
      clear hcell h3 g0 g1 g2 hok
      by_cases hs : v.deps[k].2.1 < v.time
      · have HN : Hid (olderB v.time (v.deps.take (k + 1)) = true) := by show _ = _; rw [HT.out, HO.out, decide_eq_true hs]; rfl
        go_wp2
        refine region_over (by kernel_rfl) (by kernel_rfl) ?_
        repeat (go_big_quiet_step (fail))
        refine wpQuiet_nil ?_
        intro w9 hb9
        have G1 := below_after hBw hb9
        have BV := BV.below hb9 BV.lt
        go_wp2
        go_roundw
        case rel => exact ⟨k + 1, by omega, by go_num, HN.out, BV, G1⟩
        case measure => simp [intOf]; omega
      · have HN := Lib.hid (olderB_bad (t := v.time) k hlt (by omega))
        have hs' : v.time ≤ v.deps[k].2.1 := by omega
        clear hs
        go_wp2
        refine region_over (by kernel_rfl) (by kernel_rfl) ?_
        repeat (go_big_quiet_step (fail))
        refine wpQuiet_nil ?_
        intro w9 hb9
        have G1 := below_after hBw hb9
        have BV := BV.below hb9 BV.lt
        go_wp2
        go_ret
        exact ⟨by rw [HV.out, HN.out]; rfl, G1⟩
    · obtain rfl : k = v.deps.length := by omega
      rw [List.take_length] at hok
      have HO := Lib.hid hok
      clear hok
      go_wp2
      go_ret
      exact ⟨by rw [HV.out, HO.out]; rfl, hBw⟩

end Go.Proofs.Ythciikogogkfcaa
