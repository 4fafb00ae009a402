/- A call's answers: the program's function. -/
import Derived.Test.YthciikogogkfcaaCallW2
import Derived.Deep.CutRange
namespace Go.Proofs.Ythciikogogkfcaa
open Go.RowKit Go.Deep
set_option linter.unusedVariables false

theorem gok_bad {keys : List Int} {got : List An} {needs : List Dp} (k : Nat) (h : k < got.length) (hb : answerB got[k].p = false) : gotOkB keys (ps got) needs = false := by
  rw [gotOkB, an_bad _ _ (k + 1) (by rw [an_takeM _ _ _ h, qI, hb]; simp)]; rfl
theorem gok_key {keys : List Int} {got : List An} {needs : List Dp} (k : Nat) (h : k < got.length) (hb : hasK keys got[k].p.key = false) : gotOkB keys (ps got) needs = false := by
  rw [gotOkB, an_bad _ _ (k + 1) (by rw [an_takeM _ _ _ h, qI, hb]; simp)]; rfl
theorem gok_asc {keys : List Int} {got : List An} {needs : List Dp} (k : Nat) (h : k < got.length) (hk : 0 < k) (hb : ¬ (got[k - 1]'(by omega)).p.key < got[k].p.key) : gotOkB keys (ps got) needs = false := by
  rw [gotOkB, an_bad _ _ (k + 1) (by rw [an_takeM _ _ _ h, decide_eq_false hb, decide_eq_false (by omega)]; simp)]; rfl
theorem gok_yes {keys : List Int} {got : List An} (k : Nat) (h : k < got.length) (h0 : anFrom (qI keys) none ((ps got).take k) = true) (h1 : hasK keys got[k].p.key = true) (h2 : k = 0 ∨ (got[k - 1]'(by omega)).p.key < got[k].p.key) (h3 : answerB got[k].p = true) : anFrom (qI keys) none ((ps got).take (k + 1)) = true := by
  rw [an_takeM _ _ _ h, h0, qI, h1, h3]
  rcases h2 with h2 | h2
  · rw [decide_eq_true h2]; rfl
  · rw [decide_eq_true h2, Bool.or_true]; rfl
theorem gok_need {keys : List Int} {got : List Ap} {needs : List Dp} (k : Nat) (h : k < needs.length) (hb : needB got needs[k] = false) : gotOkB keys got needs = false := by
  rw [gotOkB, all_bad k h hb]; simp
theorem gok_end {keys : List Int} {got : List Ap} {needs : List Dp} (h1 : anFrom (qI keys) none got = true) (h2 : needs.all (needB got) = true) : gotOkB keys got needs = (decide (needs.length = 0) || decide (got.length = keys.length)) := by
  rw [gotOkB, h1, h2]; rfl
set_option maxRecDepth 100000 in
set_option maxHeartbeats 16000000 in
theorem gotOk_impl0 (client : Int) (num : Int) (kind : Int) (keys : List Int) (val : Int) (ctx : List Dp) (beg : Int) (fin : Int) (ovr : Bool) (time : Int) (site : Int) (got : List An) (needs : List Dp) (ka : Option Addr) (kc : Nat) (xa : Option Addr) (xc : Nat) (ga : Option Addr) (gc : Nat) (na : Option Addr) (nc : Nat) (w : World) (hin : CallIn w ⟨client, num, kind, keys, val, ctx, beg, fin, ovr, time, site, got, needs, ka, kc, xa, xc, ga, gc, na, nc⟩) (hf : FewC ⟨client, num, kind, keys, val, ctx, beg, fin, ovr, time, site, got, needs, ka, kc, xa, xc, ga, gc, na, nc⟩) :
    Calls Try.prog 96 #[.agg #[.int .i64 client, .int .i64 num, .int .i64 kind, .slice ka keys.length kc, .int .i64 val, .slice xa ctx.length xc, .int .i64 beg, .int .i64 fin, .bool ovr, .int .i64 time, .int .i64 site, .slice ga got.length gc, .slice na needs.length nc]] w (Says (gotOkB keys (ps got) needs) w) := by
  have BV := Blk.new w #[.int .i64 client, .int .i64 num, .int .i64 kind, .slice ka keys.length kc, .int .i64 val, .slice xa ctx.length xc, .int .i64 beg, .int .i64 fin, .bool ovr, .int .i64 time, .int .i64 site, .slice ga got.length gc, .slice na needs.length nc] 73
  have GB := below_box w (.cells #[.int .i64 client, .int .i64 num, .int .i64 kind, .slice ka keys.length kc, .int .i64 val, .slice xa ctx.length xc, .int .i64 beg, .int .i64 fin, .bool ovr, .int .i64 time, .int .i64 site, .slice ga got.length gc, .slice na needs.length nc] 73)
  have hl1 : keys.length ≤ 1048577 := hf.ks
  have hl2 : got.length ≤ 1048577 := hf.gt.1
  have hl3 : needs.length ≤ 1048577 := hf.nd
  obtain ⟨q0, q1, q2, q3, q4, q5, q6, q7, q8, q9, q10, q11, q12, qf, ql⟩ := BV.call
  go_enter Try.func96, Try.ntmps96
  go_wp2
  go_loopw [11] (fun i wr => ∃ k : Nat, k ≤ got.length ∧ i = .int .i64 k ∧ anFrom (qI keys) none ((ps got).take k) = true ∧ Blk wr w.heap.size #[.int .i64 client, .int .i64 num, .int .i64 kind, .slice ka keys.length kc, .int .i64 val, .slice xa ctx.length xc, .int .i64 beg, .int .i64 fin, .bool ovr, .int .i64 time, .int .i64 site, .slice ga got.length gc, .slice na needs.length nc] 73 ∧ Below w.heap.size w wr) (fun i _ => got.length - (intOf i).toNat)
  case atStart => exact ⟨0, Nat.zero_le _, rfl, by simp [anFrom], BV, GB⟩
  case round =>
    obtain ⟨k, hk, rfl, hok, BV, hBw⟩ := hrel
    have HO := Lib.hid hok
    clear hok
    clear q0 q1 q2 q3 q4 q5 q6 q7 q8 q9 q10 q11 q12 qf ql
    by_cases hlt : k < got.length
    · have hi0 : (0 : Int) ≤ (k : Int) := by omega
      have hi1 : (k : Int) < (got.length : Int) := by omega
      have hgt := hin.gt.below hBw
      obtain ⟨b, off, rfl, hbl, c0, c1, c2, c3, c4, c5, c6, c7, c8⟩ := hgt.at_ k hlt
      have hdp := hin.gt.get k hlt
      have hdl := hf.gt.get k hlt
      have hprev : 0 < k → ∀ hj : k - 1 < got.length, wr.cell? ⟨b, off + (k - 1) * 9, none⟩ = some (.int .i64 (got[k - 1]'hj).p.key) := fun h0 hj => by
        obtain ⟨b', off', e, _, d0, _⟩ := hgt.at_ (k - 1) hj
        cases e; exact d0
      clear hgt
      have BE := Blk.new wr #[.int .i64 got[k].p.key, .bool got[k].p.yes, .int .i64 got[k].p.v.key, .int .i64 got[k].p.v.time, .int .i64 got[k].p.v.site, .int .i64 got[k].p.v.val, .int .i64 got[k].p.v.client, .int .i64 got[k].p.v.call, .slice got[k].a got[k].p.v.deps.length got[k].c] 114
      have ql0 := BV.lt
      have ql1 : w.heap.size < wr.heap.size + 1 := by omega
      have ql2 : b < wr.heap.size + 1 := by omega
      have BV := BV.alloc (.cells #[.int .i64 got[k].p.key, .bool got[k].p.yes, .int .i64 got[k].p.v.key, .int .i64 got[k].p.v.time, .int .i64 got[k].p.v.site, .int .i64 got[k].p.v.val, .int .i64 got[k].p.v.client, .int .i64 got[k].p.v.call, .slice got[k].a got[k].p.v.deps.length got[k].c] 114)
      have hbx := below_box wr (.cells #[.int .i64 got[k].p.key, .bool got[k].p.yes, .int .i64 got[k].p.v.key, .int .i64 got[k].p.v.time, .int .i64 got[k].p.v.site, .int .i64 got[k].p.v.val, .int .i64 got[k].p.v.client, .int .i64 got[k].p.v.call, .slice got[k].a got[k].p.v.deps.length got[k].c] 114)
      have G0 := below_after hBw hbx
      obtain ⟨e0, e1, e2, e3, e4, e5, e6, e7, e8, ef, el⟩ := BE.nine
      obtain ⟨q0, q1, q2, q3, q4, q5, q6, q7, q8, q9, q10, q11, q12, qf, ql⟩ := BV.call
      rcases hkk : hasK keys got[k].p.key with _ | _
      · have HN : Hid (gotOkB keys (ps got) needs = false) := gok_key k hlt hkk
        have HK := Lib.hid hkk
        clear hkk hprev
        go_wp2
        refine region_over (by kernel_rfl) (by kernel_rfl) ?_
        repeat (go_big_quiet_step (first | (go_at_call 128; exact quiet_over_same (bool_is HK.out (contains_impl keys ka kc _ _ ((hin.ks.below G0).below (over_below _ _)) hf.ks)))))
        refine wpQuiet_nil ?_
        intro w9 hb9
        have G1 := below_after G0 hb9
        go_wp2
        go_ret
        exact ⟨by rw [HN.out]; rfl, G1⟩
      have HK := Lib.hid hkk
      have HY : Hid ((k = 0 ∨ ∀ hj : k - 1 < got.length, (got[k - 1]'hj).p.key < got[k].p.key) → answerB got[k].p = true → anFrom (qI keys) none ((ps got).take (k + 1)) = true) := fun h1 h2 => gok_yes k hlt HO.out HK.out (by rcases h1 with h1 | h1; exact .inl h1; exact .inr (h1 _)) h2
      clear hkk
      by_cases h0 : 0 < k
      · have hj : k - 1 < got.length := by omega
        have h00 : (0 : Int) < (k : Int) := by omega
        have hj0 : (0 : Int) ≤ (k : Int) - 1 := by omega
        have hj1 : (k : Int) - 1 < (got.length : Int) := by omega
        have d0 := (hbx.cell (p := ⟨b, off + (k - 1) * 9, none⟩) hbl).trans (hprev h0 hj)
        have hbl2 := Nat.lt_of_lt_of_le hbl hbx.size
        clear hprev
        by_cases hle : (got[k - 1]'hj).p.key < got[k].p.key
        · have HY : Hid (answerB got[k].p = true → anFrom (qI keys) none ((ps got).take (k + 1)) = true) := HY.out (.inr fun _ => hle)
          have hle' : decide (got[k].p.key ≤ (got[k - 1]'hj).p.key) = false := decide_eq_false (by omega)
          clear hle
          go_wp2
          refine region_over (by kernel_rfl) (by kernel_rfl) ?_
          repeat (go_big_quiet_step (first | (go_at_call 128; exact quiet_over_same (bool_is HK.out (contains_impl keys ka kc _ _ ((hin.ks.below G0).below (over_below _ _)) hf.ks)))))
          refine wpQuiet_nil ?_
          intro w9 hb9
          have G1 := below_after G0 hb9
          have BV := BV.below hb9 BV.lt
          have BE := BE.below hb9 BE.lt
          clear q0 q1 q2 q3 q4 q5 q6 q7 q8 q9 q10 q11 q12 qf ql e0 e1 e2 e3 e4 e5 e6 e7 e8 ef el
          obtain ⟨q0, q1, q2, q3, q4, q5, q6, q7, q8, q9, q10, q11, q12, qf, ql⟩ := BV.call
          obtain ⟨e0, e1, e2, e3, e4, e5, e6, e7, e8, ef, el⟩ := BE.nine
          clear d0 hbl2 hle' hj1 hj0 h00 h0
          rcases hy : got[k].p.yes with _ | _
          · rw [hy] at e1
            have HA : Hid (answerB got[k].p = zeroB got[k].p.v) := by show _ = _; unfold answerB; rw [hy]; rfl
            clear hy
            rcases hz : zeroB got[k].p.v with _ | _
            · have HN : Hid (gotOkB keys (ps got) needs = false) := gok_bad k hlt (by rw [HA.out, hz])
              have HZ := Lib.hid hz
              clear hz
              go_wp2_with fail
              refine (bool_is HZ.out (sameZero_impl _ _ _ _)).mono ?_
              rintro e w10 ⟨rfl, hb10⟩
              have BV := BV.below hb10 BV.lt
              have G2 := below_after G1 hb10
              go_wp2
              go_ret
              exact ⟨by rw [HN.out]; rfl, G2⟩
            · have HN : Hid (anFrom (qI keys) none ((ps got).take (k + 1)) = true) := HY.out (by rw [HA.out, hz])
              have HZ := Lib.hid hz
              clear hz
              go_wp2_with fail
              refine (bool_is HZ.out (sameZero_impl _ _ _ _)).mono ?_
              rintro e w10 ⟨rfl, hb10⟩
              have BV := BV.below hb10 BV.lt
              have G2 := below_after G1 hb10
              go_wp2
              go_roundw
              case rel => exact ⟨k + 1, by omega, by go_num, HN.out, BV, G2⟩
              case measure => simp [intOf]; omega
          · rw [hy] at e1
            have HYY := Lib.hid hy
            have HA : Hid (answerB got[k].p = (verOkB got[k].p.v && decide (got[k].p.v.key = got[k].p.key))) := by show _ = _; unfold answerB; rw [hy]; rfl
            clear hy
            rcases hv : verOkB got[k].p.v with _ | _
            · have HN : Hid (gotOkB keys (ps got) needs = false) := gok_bad k hlt (by rw [HA.out, hv]; rfl)
              have HZ := Lib.hid hv
              clear hv
              go_wp2_with fail
              refine (bool_is HZ.out (VerOk_impl _ _ _ _ (hdp.below G1) hdl)).mono ?_
              rintro e w10 ⟨rfl, hb10⟩
              have BV := BV.below hb10 BV.lt
              have G2 := below_after G1 hb10
              go_wp2
              go_ret
              exact ⟨by rw [HN.out]; rfl, G2⟩
            · have HZ := Lib.hid hv
              by_cases hke : got[k].p.v.key = got[k].p.key
              · have HN : Hid (anFrom (qI keys) none ((ps got).take (k + 1)) = true) := HY.out (by rw [HA.out, hv, decide_eq_true hke]; rfl)
                have hke' : (got[k].p.v.key != got[k].p.key) = false := by simp [hke]
                clear hv hke
                go_wp2_with fail
                refine (bool_is HZ.out (VerOk_impl _ _ _ _ (hdp.below G1) hdl)).mono ?_
                rintro e w10 ⟨rfl, hb10⟩
                have BV := BV.below hb10 BV.lt
                have G2 := below_after G1 hb10
                have BE := BE.below hb10 BE.lt
                clear e0 e1 e2 e3 e4 e5 e6 e7 e8 ef el
                obtain ⟨e0, e1, e2, e3, e4, e5, e6, e7, e8, ef, el⟩ := BE.nine
                rw [HYY.out] at e1
                go_wp2
                go_roundw
                case rel => exact ⟨k + 1, by omega, by go_num, HN.out, BV, G2⟩
                case measure => simp [intOf]; omega
              · have HN : Hid (gotOkB keys (ps got) needs = false) := gok_bad k hlt (by rw [HA.out, hv, decide_eq_false hke]; rfl)
                have hke' : (got[k].p.v.key != got[k].p.key) = true := by simpa using hke
                clear hv hke
                go_wp2_with fail
                refine (bool_is HZ.out (VerOk_impl _ _ _ _ (hdp.below G1) hdl)).mono ?_
                rintro e w10 ⟨rfl, hb10⟩
                have BV := BV.below hb10 BV.lt
                have G2 := below_after G1 hb10
                have BE := BE.below hb10 BE.lt
                clear e0 e1 e2 e3 e4 e5 e6 e7 e8 ef el
                obtain ⟨e0, e1, e2, e3, e4, e5, e6, e7, e8, ef, el⟩ := BE.nine
                rw [HYY.out] at e1
                go_wp2
                go_ret
                exact ⟨by rw [HN.out]; rfl, G2⟩
        · have HN : Hid (gotOkB keys (ps got) needs = false) := gok_asc k hlt h0 hle
          have hle' : (got[k].p.key ≤ (got[k - 1]'hj).p.key) := by omega
          clear hle
          go_wp2
          refine region_over (by kernel_rfl) (by kernel_rfl) ?_
          repeat (go_big_quiet_step (first | (go_at_call 128; exact quiet_over_same (bool_is HK.out (contains_impl keys ka kc _ _ ((hin.ks.below G0).below (over_below _ _)) hf.ks)))))
          refine wpQuiet_nil ?_
          intro w9 hb9
          have G1 := below_after G0 hb9
          go_wp2
          go_ret
          exact ⟨by rw [HN.out]; rfl, G1⟩
      · have HY : Hid (answerB got[k].p = true → anFrom (qI keys) none ((ps got).take (k + 1)) = true) := HY.out (.inl (by omega))
        have h00 : (k : Int) ≤ 0 := by omega
        clear hprev
        go_wp2
        refine region_over (by kernel_rfl) (by kernel_rfl) ?_
        repeat (go_big_quiet_step (first | (go_at_call 128; exact quiet_over_same (bool_is HK.out (contains_impl keys ka kc _ _ ((hin.ks.below G0).below (over_below _ _)) hf.ks)))))
        refine wpQuiet_nil ?_
        intro w9 hb9
        have G1 := below_after G0 hb9
        have BV := BV.below hb9 BV.lt
        have BE := BE.below hb9 BE.lt
        clear q0 q1 q2 q3 q4 q5 q6 q7 q8 q9 q10 q11 q12 qf ql e0 e1 e2 e3 e4 e5 e6 e7 e8 ef el
        obtain ⟨q0, q1, q2, q3, q4, q5, q6, q7, q8, q9, q10, q11, q12, qf, ql⟩ := BV.call
        obtain ⟨e0, e1, e2, e3, e4, e5, e6, e7, e8, ef, el⟩ := BE.nine
        clear h00
        rcases hy : got[k].p.yes with _ | _
        · rw [hy] at e1
          have HA : Hid (answerB got[k].p = zeroB got[k].p.v) := by show _ = _; unfold answerB; rw [hy]; rfl
          clear hy
          rcases hz : zeroB got[k].p.v with _ | _
          · have HN : Hid (gotOkB keys (ps got) needs = false) := gok_bad k hlt (by rw [HA.out, hz])
            have HZ := Lib.hid hz
            clear hz
            go_wp2_with fail
            refine (bool_is HZ.out (sameZero_impl _ _ _ _)).mono ?_
            rintro e w10 ⟨rfl, hb10⟩
            have BV := BV.below hb10 BV.lt
            have G2 := below_after G1 hb10
            go_wp2
            go_ret
            exact ⟨by rw [HN.out]; rfl, G2⟩
          · have HN : Hid (anFrom (qI keys) none ((ps got).take (k + 1)) = true) := HY.out (by rw [HA.out, hz])
            have HZ := Lib.hid hz
            clear hz
            go_wp2_with fail
            refine (bool_is HZ.out (sameZero_impl _ _ _ _)).mono ?_
            rintro e w10 ⟨rfl, hb10⟩
            have BV := BV.below hb10 BV.lt
            have G2 := below_after G1 hb10
            go_wp2
            go_roundw
            case rel => exact ⟨k + 1, by omega, by go_num, HN.out, BV, G2⟩
            case measure => simp [intOf]; omega
        · rw [hy] at e1
          have HYY := Lib.hid hy
          have HA : Hid (answerB got[k].p = (verOkB got[k].p.v && decide (got[k].p.v.key = got[k].p.key))) := by show _ = _; unfold answerB; rw [hy]; rfl
          clear hy
          rcases hv : verOkB got[k].p.v with _ | _
          · have HN : Hid (gotOkB keys (ps got) needs = false) := gok_bad k hlt (by rw [HA.out, hv]; rfl)
            have HZ := Lib.hid hv
            clear hv
            go_wp2_with fail
            refine (bool_is HZ.out (VerOk_impl _ _ _ _ (hdp.below G1) hdl)).mono ?_
            rintro e w10 ⟨rfl, hb10⟩
            have BV := BV.below hb10 BV.lt
            have G2 := below_after G1 hb10
            go_wp2
            go_ret
            exact ⟨by rw [HN.out]; rfl, G2⟩
          · have HZ := Lib.hid hv
            by_cases hke : got[k].p.v.key = got[k].p.key
            · have HN : Hid (anFrom (qI keys) none ((ps got).take (k + 1)) = true) := HY.out (by rw [HA.out, hv, decide_eq_true hke]; rfl)
              have hke' : (got[k].p.v.key != got[k].p.key) = false := by simp [hke]
              clear hv hke
              go_wp2_with fail
              refine (bool_is HZ.out (VerOk_impl _ _ _ _ (hdp.below G1) hdl)).mono ?_
              rintro e w10 ⟨rfl, hb10⟩
              have BV := BV.below hb10 BV.lt
              have G2 := below_after G1 hb10
              have BE := BE.below hb10 BE.lt
              clear e0 e1 e2 e3 e4 e5 e6 e7 e8 ef el
              obtain ⟨e0, e1, e2, e3, e4, e5, e6, e7, e8, ef, el⟩ := BE.nine
              rw [HYY.out] at e1
              go_wp2
              go_roundw
              case rel => exact ⟨k + 1, by omega, by go_num, HN.out, BV, G2⟩
              case measure => simp [intOf]; omega
            · have HN : Hid (gotOkB keys (ps got) needs = false) := gok_bad k hlt (by rw [HA.out, hv, decide_eq_false hke]; rfl)
              have hke' : (got[k].p.v.key != got[k].p.key) = true := by simpa using hke
              clear hv hke
              go_wp2_with fail
              refine (bool_is HZ.out (VerOk_impl _ _ _ _ (hdp.below G1) hdl)).mono ?_
              rintro e w10 ⟨rfl, hb10⟩
              have BV := BV.below hb10 BV.lt
              have G2 := below_after G1 hb10
              have BE := BE.below hb10 BE.lt
              clear e0 e1 e2 e3 e4 e5 e6 e7 e8 ef el
              obtain ⟨e0, e1, e2, e3, e4, e5, e6, e7, e8, ef, el⟩ := BE.nine
              rw [HYY.out] at e1
              go_wp2
              go_ret
              exact ⟨by rw [HN.out]; rfl, G2⟩
    obtain rfl : k = got.length := by omega
    have H1 : Hid (anFrom (qI keys) none (ps got) = true) := an_end HO.out
    clear HO hk hlt
    obtain ⟨q0, q1, q2, q3, q4, q5, q6, q7, q8, q9, q10, q11, q12, qf, ql⟩ := BV.call
    have GA := hBw
    clear hBw
    go_wp2
    go_loopw [70] (fun i wr => ∃ k : Nat, k ≤ needs.length ∧ i = .int .i64 k ∧ (needs.take k).all (needB (ps got)) = true ∧ Blk wr w.heap.size #[.int .i64 client, .int .i64 num, .int .i64 kind, .slice ka keys.length kc, .int .i64 val, .slice xa ctx.length xc, .int .i64 beg, .int .i64 fin, .bool ovr, .int .i64 time, .int .i64 site, .slice ga got.length gc, .slice na needs.length nc] 73 ∧ Below w.heap.size w wr) (fun i _ => needs.length - (intOf i).toNat)
    case atStart => exact ⟨0, Nat.zero_le _, rfl, by simp, BV, GA⟩
    case round =>
      obtain ⟨k, hk, rfl, hok, BV, hBw⟩ := hrel
      have HO := Lib.hid hok
      clear hok
      clear q0 q1 q2 q3 q4 q5 q6 q7 q8 q9 q10 q11 q12 qf ql
      by_cases hlt : k < needs.length
      · have hi0 : (0 : Int) ≤ (k : Int) := by omega
        have hi1 : (k : Int) < (needs.length : Int) := by omega
        obtain ⟨_, _, h3⟩ := hin.nd.below hBw
        obtain ⟨b, off, rfl, hbl, hcell⟩ := h3 (dpsC_ne (l := needs) (by omega))
        obtain ⟨g0, g1, g2⟩ := dpsC_get needs k hlt
        obtain ⟨c0, c1, c2, _⟩ := cells3 (Below.refl _ wr) hbl (hcell _ _ g0) (hcell _ _ g1) (hcell _ _ g2)
        rw [← Nat.add_assoc] at c1 c2
        clear hcell h3 g0 g1 g2
        have BE := Blk.new wr #[.int .i64 needs[k].1, .int .i64 needs[k].2.1, .int .i64 needs[k].2.2] 32
        have BV := BV.alloc (.cells #[.int .i64 needs[k].1, .int .i64 needs[k].2.1, .int .i64 needs[k].2.2] 32)
        have G0 := below_alloc hBw (.cells #[.int .i64 needs[k].1, .int .i64 needs[k].2.1, .int .i64 needs[k].2.2] 32)
        obtain ⟨e0, e1, e2, ef, el⟩ := BE.three
        obtain ⟨q0, q1, q2, q3, q4, q5, q6, q7, q8, q9, q10, q11, q12, qf, ql⟩ := BV.call
        have HT := Lib.hid (all_take (p := needB (ps got)) needs k hlt)
        have hcase := idxA_cases got needs[k].1
        rcases hcase with ⟨hi, hg⟩ | ⟨j, hj, hi, hg⟩
        · have HN : Hid (gotOkB keys (ps got) needs = false) := gok_need k hlt (by rw [needB, hg])
          have HI := Lib.hid hi
          clear hg hi
          go_wp2_with fail
          refine (int_is HI.out (got_impl ⟨client, num, kind, keys, val, ctx, beg, fin, ovr, time, site, got, needs, ka, kc, xa, xc, ga, gc, (some ⟨b, off, none⟩), nc⟩ needs[k].1 _ (hin.gt.below G0) hl2)).mono ?_
          rintro e w4 ⟨rfl, hb4⟩
          have BV := BV.below hb4 BV.lt
          have BE := BE.below hb4 BE.lt
          have G0 := below_after G0 hb4
          clear q0 q1 q2 q3 q4 q5 q6 q7 q8 q9 q10 q11 q12 qf ql e0 e1 e2 ef el
          obtain ⟨e0, e1, e2, ef, el⟩ := BE.three
          obtain ⟨q0, q1, q2, q3, q4, q5, q6, q7, q8, q9, q10, q11, q12, qf, ql⟩ := BV.call
          go_wp2
          refine region_over (by kernel_rfl) (by kernel_rfl) ?_
          repeat (go_big_quiet_step (fail))
          refine wpQuiet_nil ?_
          intro w9 hb9
          have G1 := below_after G0 hb9
          go_wp2
          go_ret
          exact ⟨by rw [HN.out]; rfl, G1⟩
        · have HI := Lib.hid hi
          have HB : Hid (needB (ps got) needs[k] = olderA got[j].p needs[k].2) := by show _ = _; rw [needB, hg]
          clear hg hi
          go_wp2_with fail
          refine (int_is HI.out (got_impl ⟨client, num, kind, keys, val, ctx, beg, fin, ovr, time, site, got, needs, ka, kc, xa, xc, ga, gc, (some ⟨b, off, none⟩), nc⟩ needs[k].1 _ (hin.gt.below G0) hl2)).mono ?_
          rintro e w4 ⟨rfl, hb4⟩
          have BV := BV.below hb4 BV.lt
          have BE := BE.below hb4 BE.lt
          have G0 := below_after G0 hb4
          clear q0 q1 q2 q3 q4 q5 q6 q7 q8 q9 q10 q11 q12 qf ql e0 e1 e2 ef el
          obtain ⟨e0, e1, e2, ef, el⟩ := BE.three
          obtain ⟨q0, q1, q2, q3, q4, q5, q6, q7, q8, q9, q10, q11, q12, qf, ql⟩ := BV.call
          have hj0 : (0 : Int) ≤ (j : Int) := by omega
          have hjn : decide ((j : Int) < 0) = false := decide_eq_false (by omega)
          have hj1 : (j : Int) < (got.length : Int) := by omega
          have hgt := hin.gt.below G0
          obtain ⟨b2, off2, rfl, hbl2, d0, d1, d2, d3, d4, d5, d6, d7, d8⟩ := hgt.at_ j hj
          clear hgt
          rcases ho : olderA got[j].p needs[k].2 with _ | _
          · have HN : Hid (gotOkB keys (ps got) needs = false) := gok_need k hlt (by rw [HB.out, ho])
            have HOL := Lib.hid ho
            clear ho
            go_wp2
            refine region_over (by kernel_rfl) (by kernel_rfl) ?_
            repeat (go_big_quiet_step (first | (go_at_call 131; exact quiet_over (bool_is HOL.out (older_impl _ _ _ _ _ _ _ _)))))
            refine wpQuiet_nil ?_
            intro w9 hb9
            have G1 := below_after G0 hb9
            go_wp2
            go_ret
            exact ⟨by rw [HN.out]; rfl, G1⟩
          · have HN : Hid ((needs.take (k + 1)).all (needB (ps got)) = true) := by show _ = _; rw [HT.out, HO.out, HB.out, ho]; rfl
            have HOL := Lib.hid ho
            clear ho
            go_wp2
            refine region_over (by kernel_rfl) (by kernel_rfl) ?_
            repeat (go_big_quiet_step (first | (go_at_call 131; exact quiet_over (bool_is HOL.out (older_impl _ _ _ _ _ _ _ _)))))
            refine wpQuiet_nil ?_
            intro w9 hb9
            have G1 := below_after G0 hb9
            go_wp2
            have BV := BV.below hb9 BV.lt
            go_roundw
            case rel => exact ⟨k + 1, by omega, by go_num, HN.out, BV, G1⟩
            case measure => simp [intOf]; omega
      obtain rfl : k = needs.length := by omega
      have H2 : Hid (needs.all (needB (ps got)) = true) := by have := HO.out; rwa [List.take_length] at this
      have HN := Lib.hid (gok_end (keys := keys) H1.out H2.out)
      clear HO hk hlt
      obtain ⟨q0, q1, q2, q3, q4, q5, q6, q7, q8, q9, q10, q11, q12, qf, ql⟩ := BV.call
      by_cases h0 : needs.length = 0
      · have h0' : ((needs.length : Int) == 0) = true := by rw [beq_iff_eq]; omega
        have HN : Hid (gotOkB keys (ps got) needs = true) := by show _ = _; rw [HN.out, decide_eq_true h0]; rfl
        clear h0
        go_wp2
        go_ret
        exact ⟨by rw [HN.out]; rfl, hBw⟩
      · have h0' : ((needs.length : Int) == 0) = false := by rw [beq_eq_false_iff_ne]; omega
        have HN : Hid (gotOkB keys (ps got) needs = decide (got.length = keys.length)) := by show _ = _; rw [HN.out, decide_eq_false h0, ps_len]; rfl
        clear h0
        go_wp2_with fail
        refine (answered_impl ⟨client, num, kind, keys, val, ctx, beg, fin, ovr, time, site, got, needs, ka, kc, xa, xc, ga, gc, na, nc⟩ _).mono ?_
        rintro e w5 ⟨rfl, hb5⟩
        have G1 := below_after hBw hb5
        go_wp2
        go_ret
        exact ⟨by rw [HN.out]; rfl, G1⟩

end Go.Proofs.Ythciikogogkfcaa
