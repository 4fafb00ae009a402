/- A call's validity: the reference's, of a read. -/
import Derived.Test.YthciikogogkfcaaCallW5
import Derived.Test.YthciikogogkfcaaWordW
import Derived.Deep.CutRange
namespace Go.Proofs.Ythciikogogkfcaa
open Go.RowKit Go.Deep
set_option linter.unusedVariables false

set_option maxRecDepth 100000 in
set_option maxHeartbeats 16000000 in
theorem CallOk_spec_2 (client : Int) (num : Int) (kind : Int) (keys : List Int) (val : Int) (ctx : List Dp) (beg : Int) (fin : Int) (ovr : Bool) (time : Int) (site : Int) (got : List An) (needs : List Dp) (ka : Option Addr) (kc : Nat) (xa : Option Addr) (xc : Nat) (ga : Option Addr) (gc : Nat) (na : Option Addr) (nc : Nat) (t : Int) (w : World) (hin : CallIn w ⟨client, num, kind, keys, val, ctx, beg, fin, ovr, time, site, got, needs, ka, kc, xa, xc, ga, gc, na, nc⟩) (hf : FewC ⟨client, num, kind, keys, val, ctx, beg, fin, ovr, time, site, got, needs, ka, kc, xa, xc, ga, gc, na, nc⟩) (hkind : kind = 2) :
    Calls Try.prog 35 #[.agg #[.int .i64 client, .int .i64 num, .int .i64 kind, .slice ka keys.length kc, .int .i64 val, .slice xa ctx.length xc, .int .i64 beg, .int .i64 fin, .bool ovr, .int .i64 time, .int .i64 site, .slice ga got.length gc, .slice na needs.length nc], .int .i64 t] w (Says (callOkS ⟨client, num, kind, keys, val, ctx, beg, fin, ovr, time, site, got, needs, ka, kc, xa, xc, ga, gc, na, nc⟩ t) w) := by
  have BV := Blk.new w #[.int .i64 client, .int .i64 num, .int .i64 kind, .slice ka keys.length kc, .int .i64 val, .slice xa ctx.length xc, .int .i64 beg, .int .i64 fin, .bool ovr, .int .i64 time, .int .i64 site, .slice ga got.length gc, .slice na needs.length nc] 73
  have G0 := below_box w (.cells #[.int .i64 client, .int .i64 num, .int .i64 kind, .slice ka keys.length kc, .int .i64 val, .slice xa ctx.length xc, .int .i64 beg, .int .i64 fin, .bool ovr, .int .i64 time, .int .i64 site, .slice ga got.length gc, .slice na needs.length nc] 73)
  have hl1 : keys.length ≤ 1048577 := hf.ks
  have hl2 : got.length ≤ 1048577 := hf.gt.1
  have hl3 : needs.length ≤ 1048577 := hf.nd
  have hl4 : ctx.length ≤ 1048577 := hf.cx
  obtain ⟨p0, p1, p2, p3, p4, p5, p6, p7, p8, p9, p10, p11, p12, pf, pl⟩ := BV.call
  go_enter Try.func35, Try.ntmps35
  try simp only [List.append_eq, List.cons_append, List.nil_append]
  have h2 : inB kind 1 2 = true := inB_iff.2 ⟨by omega, by omega⟩
  have HKI := Lib.hid hkind
  clear hkind
  rcases h0 : inB client 0 1 with _ | _
  · skip
    have HB : Hid (callOkS ⟨client, num, kind, keys, val, ctx, beg, fin, ovr, time, site, got, needs, ka, kc, xa, xc, ga, gc, na, nc⟩ t = false) := by
      show (inB client 0 1 && (inB num 1 99 && (inB kind 1 2 && (keysS kind keys && (inB val 0 9999 && (depsOkB ctx && (depsOkB needs && (inB beg 1 t && (kindS ⟨client, num, kind, keys, val, ctx, beg, fin, ovr, time, site, got, needs, ka, kc, xa, xc, ga, gc, na, nc⟩ && (anFrom (qS keys) none (ps got) && ((decide (needs.length = 0) || decide (keys.length ≤ got.length)) && (needs.all (needS (ps got)) && finS ⟨client, num, kind, keys, val, ctx, beg, fin, ovr, time, site, got, needs, ka, kc, xa, xc, ga, gc, na, nc⟩ t)))))))))))) = _
      rw [h0]
      all_goals rfl
    go_wp2_with (first | (go_at_call 54; refine (in_spec _ _ _ _).mono ?_; rintro e w' ⟨rfl, rfl⟩))
    go_ret
    exact ⟨by rw [HB.out]; rfl, G0⟩
  rcases h1 : inB num 1 99 with _ | _
  · skip
    have HB : Hid (callOkS ⟨client, num, kind, keys, val, ctx, beg, fin, ovr, time, site, got, needs, ka, kc, xa, xc, ga, gc, na, nc⟩ t = false) := by
      show (inB client 0 1 && (inB num 1 99 && (inB kind 1 2 && (keysS kind keys && (inB val 0 9999 && (depsOkB ctx && (depsOkB needs && (inB beg 1 t && (kindS ⟨client, num, kind, keys, val, ctx, beg, fin, ovr, time, site, got, needs, ka, kc, xa, xc, ga, gc, na, nc⟩ && (anFrom (qS keys) none (ps got) && ((decide (needs.length = 0) || decide (keys.length ≤ got.length)) && (needs.all (needS (ps got)) && finS ⟨client, num, kind, keys, val, ctx, beg, fin, ovr, time, site, got, needs, ka, kc, xa, xc, ga, gc, na, nc⟩ t)))))))))))) = _
      rw [h0, h1]
      all_goals rfl
    go_wp2_with (first | (go_at_call 54; refine (in_spec _ _ _ _).mono ?_; rintro e w' ⟨rfl, rfl⟩))
    go_ret
    exact ⟨by rw [HB.out]; rfl, G0⟩
  go_wp2_with (first | (go_at_call 54; refine (in_spec _ _ _ _).mono ?_; rintro e w' ⟨rfl, rfl⟩))
  refine (l31Keys_spec ⟨client, num, kind, keys, val, ctx, beg, fin, ovr, time, site, got, needs, ka, kc, xa, xc, ga, gc, na, nc⟩ ka _ (hin.ks.below G0) hl1).mono ?_
  rintro e w3 ⟨rfl, hb3⟩
  have BV := BV.below hb3 BV.lt
  have G0 := below_after G0 hb3
  clear p0 p1 p2 p3 p4 p5 p6 p7 p8 p9 p10 p11 p12 pf pl
  obtain ⟨p0, p1, p2, p3, p4, p5, p6, p7, p8, p9, p10, p11, p12, pf, pl⟩ := BV.call
  rcases h3 : keysS kind keys with _ | _
  · skip
    have HB : Hid (callOkS ⟨client, num, kind, keys, val, ctx, beg, fin, ovr, time, site, got, needs, ka, kc, xa, xc, ga, gc, na, nc⟩ t = false) := by
      show (inB client 0 1 && (inB num 1 99 && (inB kind 1 2 && (keysS kind keys && (inB val 0 9999 && (depsOkB ctx && (depsOkB needs && (inB beg 1 t && (kindS ⟨client, num, kind, keys, val, ctx, beg, fin, ovr, time, site, got, needs, ka, kc, xa, xc, ga, gc, na, nc⟩ && (anFrom (qS keys) none (ps got) && ((decide (needs.length = 0) || decide (keys.length ≤ got.length)) && (needs.all (needS (ps got)) && finS ⟨client, num, kind, keys, val, ctx, beg, fin, ovr, time, site, got, needs, ka, kc, xa, xc, ga, gc, na, nc⟩ t)))))))))))) = _
      rw [h0, h1, h2, h3]
      all_goals rfl
    go_wp2_with (first | (go_at_call 54; refine (in_spec _ _ _ _).mono ?_; rintro e w' ⟨rfl, rfl⟩))
    go_ret
    exact ⟨by rw [HB.out]; rfl, G0⟩
  rcases h4 : inB val 0 9999 with _ | _
  · skip
    have HB : Hid (callOkS ⟨client, num, kind, keys, val, ctx, beg, fin, ovr, time, site, got, needs, ka, kc, xa, xc, ga, gc, na, nc⟩ t = false) := by
      show (inB client 0 1 && (inB num 1 99 && (inB kind 1 2 && (keysS kind keys && (inB val 0 9999 && (depsOkB ctx && (depsOkB needs && (inB beg 1 t && (kindS ⟨client, num, kind, keys, val, ctx, beg, fin, ovr, time, site, got, needs, ka, kc, xa, xc, ga, gc, na, nc⟩ && (anFrom (qS keys) none (ps got) && ((decide (needs.length = 0) || decide (keys.length ≤ got.length)) && (needs.all (needS (ps got)) && finS ⟨client, num, kind, keys, val, ctx, beg, fin, ovr, time, site, got, needs, ka, kc, xa, xc, ga, gc, na, nc⟩ t)))))))))))) = _
      rw [h0, h1, h2, h3, h4]
      all_goals rfl
    go_wp2_with (first | (go_at_call 54; refine (in_spec _ _ _ _).mono ?_; rintro e w' ⟨rfl, rfl⟩))
    go_ret
    exact ⟨by rw [HB.out]; rfl, G0⟩
  go_wp2_with (first | (go_at_call 54; refine (in_spec _ _ _ _).mono ?_; rintro e w' ⟨rfl, rfl⟩))
  refine (depsOk_spec ctx xa xc _ (hin.cx.below G0) hl4).mono ?_
  rintro e w5 ⟨rfl, hb5⟩
  have BV := BV.below hb5 BV.lt
  have G0 := below_after G0 hb5
  clear p0 p1 p2 p3 p4 p5 p6 p7 p8 p9 p10 p11 p12 pf pl
  obtain ⟨p0, p1, p2, p3, p4, p5, p6, p7, p8, p9, p10, p11, p12, pf, pl⟩ := BV.call
  rcases h5 : depsOkB ctx with _ | _
  · skip
    have HB : Hid (callOkS ⟨client, num, kind, keys, val, ctx, beg, fin, ovr, time, site, got, needs, ka, kc, xa, xc, ga, gc, na, nc⟩ t = false) := by
      show (inB client 0 1 && (inB num 1 99 && (inB kind 1 2 && (keysS kind keys && (inB val 0 9999 && (depsOkB ctx && (depsOkB needs && (inB beg 1 t && (kindS ⟨client, num, kind, keys, val, ctx, beg, fin, ovr, time, site, got, needs, ka, kc, xa, xc, ga, gc, na, nc⟩ && (anFrom (qS keys) none (ps got) && ((decide (needs.length = 0) || decide (keys.length ≤ got.length)) && (needs.all (needS (ps got)) && finS ⟨client, num, kind, keys, val, ctx, beg, fin, ovr, time, site, got, needs, ka, kc, xa, xc, ga, gc, na, nc⟩ t)))))))))))) = _
      rw [h0, h1, h2, h3, h4, h5]
      all_goals rfl
    go_wp2_with (first | (go_at_call 54; refine (in_spec _ _ _ _).mono ?_; rintro e w' ⟨rfl, rfl⟩))
    go_ret
    exact ⟨by rw [HB.out]; rfl, G0⟩
  go_wp2_with (first | (go_at_call 54; refine (in_spec _ _ _ _).mono ?_; rintro e w' ⟨rfl, rfl⟩))
  refine (depsOk_spec needs na nc _ (hin.nd.below G0) hl3).mono ?_
  rintro e w6 ⟨rfl, hb6⟩
  have BV := BV.below hb6 BV.lt
  have G0 := below_after G0 hb6
  clear p0 p1 p2 p3 p4 p5 p6 p7 p8 p9 p10 p11 p12 pf pl
  obtain ⟨p0, p1, p2, p3, p4, p5, p6, p7, p8, p9, p10, p11, p12, pf, pl⟩ := BV.call
  rcases h6 : depsOkB needs with _ | _
  · skip
    have HB : Hid (callOkS ⟨client, num, kind, keys, val, ctx, beg, fin, ovr, time, site, got, needs, ka, kc, xa, xc, ga, gc, na, nc⟩ t = false) := by
      show (inB client 0 1 && (inB num 1 99 && (inB kind 1 2 && (keysS kind keys && (inB val 0 9999 && (depsOkB ctx && (depsOkB needs && (inB beg 1 t && (kindS ⟨client, num, kind, keys, val, ctx, beg, fin, ovr, time, site, got, needs, ka, kc, xa, xc, ga, gc, na, nc⟩ && (anFrom (qS keys) none (ps got) && ((decide (needs.length = 0) || decide (keys.length ≤ got.length)) && (needs.all (needS (ps got)) && finS ⟨client, num, kind, keys, val, ctx, beg, fin, ovr, time, site, got, needs, ka, kc, xa, xc, ga, gc, na, nc⟩ t)))))))))))) = _
      rw [h0, h1, h2, h3, h4, h5, h6]
      all_goals rfl
    go_wp2_with (first | (go_at_call 54; refine (in_spec _ _ _ _).mono ?_; rintro e w' ⟨rfl, rfl⟩))
    go_ret
    exact ⟨by rw [HB.out]; rfl, G0⟩
  rcases h7 : inB beg 1 t with _ | _
  · skip
    have HB : Hid (callOkS ⟨client, num, kind, keys, val, ctx, beg, fin, ovr, time, site, got, needs, ka, kc, xa, xc, ga, gc, na, nc⟩ t = false) := by
      show (inB client 0 1 && (inB num 1 99 && (inB kind 1 2 && (keysS kind keys && (inB val 0 9999 && (depsOkB ctx && (depsOkB needs && (inB beg 1 t && (kindS ⟨client, num, kind, keys, val, ctx, beg, fin, ovr, time, site, got, needs, ka, kc, xa, xc, ga, gc, na, nc⟩ && (anFrom (qS keys) none (ps got) && ((decide (needs.length = 0) || decide (keys.length ≤ got.length)) && (needs.all (needS (ps got)) && finS ⟨client, num, kind, keys, val, ctx, beg, fin, ovr, time, site, got, needs, ka, kc, xa, xc, ga, gc, na, nc⟩ t)))))))))))) = _
      rw [h0, h1, h2, h3, h4, h5, h6, h7]
      all_goals rfl
    go_wp2_with (first | (go_at_call 54; refine (in_spec _ _ _ _).mono ?_; rintro e w' ⟨rfl, rfl⟩))
    go_ret
    exact ⟨by rw [HB.out]; rfl, G0⟩
  have hcat : IntKind.i64.wrap ((got.length : Int) + (needs.length : Int)) = (got.length : Int) + (needs.length : Int) := by rw [IntKind.wrap_i64]; omega
  have hkind := HKI.out
  have k2 : decide (kind = 2) = true := decide_eq_true hkind
  have k1 : decide (kind = 1) = false := decide_eq_false (by omega)
  have kk1 : (kind == 1) = false := by rw [beq_eq_false_iff_ne]; omega
  have kk2 : (kind == 2) = true := by simpa using hkind
  have HKS : Hid (kindS ⟨client, num, kind, keys, val, ctx, beg, fin, ovr, time, site, got, needs, ka, kc, xa, xc, ga, gc, na, nc⟩ = ((!decide (kind = 1) || decide ((got.length : Int) + (needs.length : Int) ≤ 0)) && ((!decide (kind = 2) || (decide (val ≤ 0) && (decide (time = 0) && decide (site = 0)))) && (fitsB time site && decide (got.length ≤ keys.length))))) := rfl
  have K1 := Lib.hid k1
  have K2 := Lib.hid k2
  clear k1 k2 hkind
  by_cases hv0 : val ≤ 0
  rotate_left
  · skip
    have hks : kindS ⟨client, num, kind, keys, val, ctx, beg, fin, ovr, time, site, got, needs, ka, kc, xa, xc, ga, gc, na, nc⟩ = false := by rw [HKS.out, K1.out, K2.out, decide_eq_false hv0]; rfl
    have HB : Hid (callOkS ⟨client, num, kind, keys, val, ctx, beg, fin, ovr, time, site, got, needs, ka, kc, xa, xc, ga, gc, na, nc⟩ t = false) := by
      show (inB client 0 1 && (inB num 1 99 && (inB kind 1 2 && (keysS kind keys && (inB val 0 9999 && (depsOkB ctx && (depsOkB needs && (inB beg 1 t && (kindS ⟨client, num, kind, keys, val, ctx, beg, fin, ovr, time, site, got, needs, ka, kc, xa, xc, ga, gc, na, nc⟩ && (anFrom (qS keys) none (ps got) && ((decide (needs.length = 0) || decide (keys.length ≤ got.length)) && (needs.all (needS (ps got)) && finS ⟨client, num, kind, keys, val, ctx, beg, fin, ovr, time, site, got, needs, ka, kc, xa, xc, ga, gc, na, nc⟩ t)))))))))))) = _
      rw [h0, h1, h2, h3, h4, h5, h6, h7, hks]
      all_goals rfl
    clear hks
    have hv0' : (0 : Int) < val := by omega
    clear hv0
    go_wp2_with (first | (go_at_call 54; refine (in_spec _ _ _ _).mono ?_; rintro e w' ⟨rfl, rfl⟩))
    go_ret
    exact ⟨by rw [HB.out]; rfl, G0⟩
  have hv0' : decide ((0 : Int) < val) = false := decide_eq_false (by omega)
  have HV0 := Lib.hid (decide_eq_true hv0)
  clear hv0
  by_cases ht0 : time = 0
  rotate_left
  · skip
    have hks : kindS ⟨client, num, kind, keys, val, ctx, beg, fin, ovr, time, site, got, needs, ka, kc, xa, xc, ga, gc, na, nc⟩ = false := by rw [HKS.out, K1.out, K2.out, HV0.out, decide_eq_false ht0]; rfl
    have HB : Hid (callOkS ⟨client, num, kind, keys, val, ctx, beg, fin, ovr, time, site, got, needs, ka, kc, xa, xc, ga, gc, na, nc⟩ t = false) := by
      show (inB client 0 1 && (inB num 1 99 && (inB kind 1 2 && (keysS kind keys && (inB val 0 9999 && (depsOkB ctx && (depsOkB needs && (inB beg 1 t && (kindS ⟨client, num, kind, keys, val, ctx, beg, fin, ovr, time, site, got, needs, ka, kc, xa, xc, ga, gc, na, nc⟩ && (anFrom (qS keys) none (ps got) && ((decide (needs.length = 0) || decide (keys.length ≤ got.length)) && (needs.all (needS (ps got)) && finS ⟨client, num, kind, keys, val, ctx, beg, fin, ovr, time, site, got, needs, ka, kc, xa, xc, ga, gc, na, nc⟩ t)))))))))))) = _
      rw [h0, h1, h2, h3, h4, h5, h6, h7, hks]
      all_goals rfl
    clear hks
    have ht0' : (time == 0) = false := by simpa using ht0
    clear ht0
    go_wp2_with (first | (go_at_call 54; refine (in_spec _ _ _ _).mono ?_; rintro e w' ⟨rfl, rfl⟩))
    go_ret
    exact ⟨by rw [HB.out]; rfl, G0⟩
  have ht0' : (time == 0) = true := by simpa using ht0
  have HT0 := Lib.hid (decide_eq_true ht0)
  clear ht0
  by_cases hs0 : site = 0
  rotate_left
  · skip
    have hks : kindS ⟨client, num, kind, keys, val, ctx, beg, fin, ovr, time, site, got, needs, ka, kc, xa, xc, ga, gc, na, nc⟩ = false := by rw [HKS.out, K1.out, K2.out, HV0.out, HT0.out, decide_eq_false hs0]; rfl
    have HB : Hid (callOkS ⟨client, num, kind, keys, val, ctx, beg, fin, ovr, time, site, got, needs, ka, kc, xa, xc, ga, gc, na, nc⟩ t = false) := by
      show (inB client 0 1 && (inB num 1 99 && (inB kind 1 2 && (keysS kind keys && (inB val 0 9999 && (depsOkB ctx && (depsOkB needs && (inB beg 1 t && (kindS ⟨client, num, kind, keys, val, ctx, beg, fin, ovr, time, site, got, needs, ka, kc, xa, xc, ga, gc, na, nc⟩ && (anFrom (qS keys) none (ps got) && ((decide (needs.length = 0) || decide (keys.length ≤ got.length)) && (needs.all (needS (ps got)) && finS ⟨client, num, kind, keys, val, ctx, beg, fin, ovr, time, site, got, needs, ka, kc, xa, xc, ga, gc, na, nc⟩ t)))))))))))) = _
      rw [h0, h1, h2, h3, h4, h5, h6, h7, hks]
      all_goals rfl
    clear hks
    have hs0' : (site == 0) = false := by simpa using hs0
    clear hs0
    go_wp2_with (first | (go_at_call 54; refine (in_spec _ _ _ _).mono ?_; rintro e w' ⟨rfl, rfl⟩))
    go_ret
    exact ⟨by rw [HB.out]; rfl, G0⟩
  have hs0' : (site == 0) = true := by simpa using hs0
  have HS0 := Lib.hid (decide_eq_true hs0)
  clear hs0
  go_wp2_with (first | (go_at_call 54; refine (in_spec _ _ _ _).mono ?_; rintro e w' ⟨rfl, rfl⟩))
  refine (fits_spec time site _).mono ?_
  rintro e w8 ⟨rfl, hb8⟩
  have BV := BV.below hb8 BV.lt
  have G0 := below_after G0 hb8
  clear p0 p1 p2 p3 p4 p5 p6 p7 p8 p9 p10 p11 p12 pf pl
  obtain ⟨p0, p1, p2, p3, p4, p5, p6, p7, p8, p9, p10, p11, p12, pf, pl⟩ := BV.call
  rcases h8 : fitsB time site with _ | _
  · skip
    have hks : kindS ⟨client, num, kind, keys, val, ctx, beg, fin, ovr, time, site, got, needs, ka, kc, xa, xc, ga, gc, na, nc⟩ = false := by rw [HKS.out, K1.out, K2.out, HV0.out, HT0.out, HS0.out, h8]; rfl
    have HB : Hid (callOkS ⟨client, num, kind, keys, val, ctx, beg, fin, ovr, time, site, got, needs, ka, kc, xa, xc, ga, gc, na, nc⟩ t = false) := by
      show (inB client 0 1 && (inB num 1 99 && (inB kind 1 2 && (keysS kind keys && (inB val 0 9999 && (depsOkB ctx && (depsOkB needs && (inB beg 1 t && (kindS ⟨client, num, kind, keys, val, ctx, beg, fin, ovr, time, site, got, needs, ka, kc, xa, xc, ga, gc, na, nc⟩ && (anFrom (qS keys) none (ps got) && ((decide (needs.length = 0) || decide (keys.length ≤ got.length)) && (needs.all (needS (ps got)) && finS ⟨client, num, kind, keys, val, ctx, beg, fin, ovr, time, site, got, needs, ka, kc, xa, xc, ga, gc, na, nc⟩ t)))))))))))) = _
      rw [h0, h1, h2, h3, h4, h5, h6, h7, hks]
      all_goals rfl
    clear hks
    go_wp2_with (first | (go_at_call 54; refine (in_spec _ _ _ _).mono ?_; rintro e w' ⟨rfl, rfl⟩))
    go_ret
    exact ⟨by rw [HB.out]; rfl, G0⟩
  by_cases hgk : got.length ≤ keys.length
  rotate_left
  · skip
    have hks : kindS ⟨client, num, kind, keys, val, ctx, beg, fin, ovr, time, site, got, needs, ka, kc, xa, xc, ga, gc, na, nc⟩ = false := by rw [HKS.out, K1.out, K2.out, HV0.out, HT0.out, HS0.out, h8, decide_eq_false hgk]; rfl
    have HB : Hid (callOkS ⟨client, num, kind, keys, val, ctx, beg, fin, ovr, time, site, got, needs, ka, kc, xa, xc, ga, gc, na, nc⟩ t = false) := by
      show (inB client 0 1 && (inB num 1 99 && (inB kind 1 2 && (keysS kind keys && (inB val 0 9999 && (depsOkB ctx && (depsOkB needs && (inB beg 1 t && (kindS ⟨client, num, kind, keys, val, ctx, beg, fin, ovr, time, site, got, needs, ka, kc, xa, xc, ga, gc, na, nc⟩ && (anFrom (qS keys) none (ps got) && ((decide (needs.length = 0) || decide (keys.length ≤ got.length)) && (needs.all (needS (ps got)) && finS ⟨client, num, kind, keys, val, ctx, beg, fin, ovr, time, site, got, needs, ka, kc, xa, xc, ga, gc, na, nc⟩ t)))))))))))) = _
      rw [h0, h1, h2, h3, h4, h5, h6, h7, hks]
      all_goals rfl
    clear hks
    have hgk' : (keys.length : Int) < (got.length : Int) := by omega
    have hgk2 : keys.length < got.length := by omega
    clear hgk
    go_wp2_with (first | (go_at_call 54; refine (in_spec _ _ _ _).mono ?_; rintro e w' ⟨rfl, rfl⟩))
    go_ret
    exact ⟨by rw [HB.out]; rfl, G0⟩
  have hks : kindS ⟨client, num, kind, keys, val, ctx, beg, fin, ovr, time, site, got, needs, ka, kc, xa, xc, ga, gc, na, nc⟩ = true := by rw [HKS.out, K1.out, K2.out, HV0.out, HT0.out, HS0.out, h8, decide_eq_true hgk]; rfl
  have hgk' : decide ((keys.length : Int) < (got.length : Int)) = false := decide_eq_false (by omega)
  have hgk2 : decide (keys.length < got.length) = false := decide_eq_false (by omega)
  clear hgk
  have HALL : Hid (∀ b, (inB client 0 1 && (inB num 1 99 && (inB kind 1 2 && (keysS kind keys && (inB val 0 9999 && (depsOkB ctx && (depsOkB needs && (inB beg 1 t && (kindS ⟨client, num, kind, keys, val, ctx, beg, fin, ovr, time, site, got, needs, ka, kc, xa, xc, ga, gc, na, nc⟩ && b))))))))) = b) := by intro b; rw [h0, h1, h2, h3, h4, h5, h6, h7, hks]; rfl
  clear h0 h1 h2 h3 h4 h5 h6 h7 hks
  go_wp2
  go_loopw [5] (fun i wr => ∃ k : Nat, k ≤ got.length ∧ i = .int .i64 k ∧ anFrom (qS keys) none ((ps got).take k) = true ∧ Blk wr w.heap.size #[.int .i64 client, .int .i64 num, .int .i64 kind, .slice ka keys.length kc, .int .i64 val, .slice xa ctx.length xc, .int .i64 beg, .int .i64 fin, .bool ovr, .int .i64 time, .int .i64 site, .slice ga got.length gc, .slice na needs.length nc] 73 ∧ Below w.heap.size w wr) (fun i _ => got.length - (intOf i).toNat)
  case atStart => exact ⟨0, Nat.zero_le _, rfl, by simp [anFrom], BV, G0⟩
  case round =>
    obtain ⟨k, hk, rfl, hok, BV, hBw⟩ := hrel
    have HO := Lib.hid hok
    clear hok
    clear p0 p1 p2 p3 p4 p5 p6 p7 p8 p9 p10 p11 p12 pf pl G0
    by_cases hlt : k < got.length
    · have hi0 : (0 : Int) ≤ (k : Int) := by omega
      have hi1 : (k : Int) < (got.length : Int) := by omega
      have hgt := hin.gt.below hBw
      obtain ⟨b, off, rfl, hbl, c0, c1, c2, c3, c4, c5, c6, c7, c8⟩ := hgt.at_ k hlt
      have hdp := hin.gt.get k hlt
      have hdl := hf.gt.get k hlt
      have hprev : ∀ hj : k - 1 < got.length, wr.cell? ⟨b, off + (k - 1) * 9, none⟩ = some (.int .i64 (got[k - 1]'hj).p.key) := fun hj => by
        obtain ⟨b', off', e, _, d0, _⟩ := hgt.at_ (k - 1) hj
        cases e; exact d0
      clear hgt
      obtain ⟨p0, p1, p2, p3, p4, p5, p6, p7, p8, p9, p10, p11, p12, pf, pl⟩ := BV.call
      have HT := Lib.hid (an_takeM (qS keys) got k hlt)
      rcases ha : answerS got[k].p with _ | _
      · have HA := Lib.hid ha
        have HB : Hid (callOkS ⟨client, num, kind, keys, val, ctx, beg, fin, ovr, time, site, got, needs, ka, kc, xa, xc, (some ⟨b, off, none⟩), gc, na, nc⟩ t = false) := by
          show (inB client 0 1 && (inB num 1 99 && (inB kind 1 2 && (keysS kind keys && (inB val 0 9999 && (depsOkB ctx && (depsOkB needs && (inB beg 1 t && (kindS ⟨client, num, kind, keys, val, ctx, beg, fin, ovr, time, site, got, needs, ka, kc, xa, xc, (some ⟨b, off, none⟩), gc, na, nc⟩ && (anFrom (qS keys) none (ps got) && ((decide (needs.length = 0) || decide (keys.length ≤ got.length)) && (needs.all (needS (ps got)) && finS ⟨client, num, kind, keys, val, ctx, beg, fin, ovr, time, site, got, needs, ka, kc, xa, xc, (some ⟨b, off, none⟩), gc, na, nc⟩ t)))))))))))) = _
          rw [HALL.out, an_bad _ _ (k + 1) (by rw [HT.out, qS, ha]; simp)]
          rfl
        clear ha hprev
        go_wp2
        refine region_over (by kernel_rfl) (by kernel_rfl) ?_
        repeat (go_big_quiet_step (first | (go_at_call 89; exact quiet_over (bool_is HA.out (l31Answer_spec got[k].p _ _ _ ((hdp.below hBw).below (over_below _ _)) hdl)))))
        refine wpQuiet_nil ?_
        intro w9 hb9
        have G1 := below_after hBw hb9
        go_wp2
        go_ret
        exact ⟨by rw [HB.out]; rfl, G1⟩
      have HA := Lib.hid ha
      rcases hkk : hasK keys got[k].p.key with _ | _
      · have HK := Lib.hid hkk
        have HB : Hid (callOkS ⟨client, num, kind, keys, val, ctx, beg, fin, ovr, time, site, got, needs, ka, kc, xa, xc, (some ⟨b, off, none⟩), gc, na, nc⟩ t = false) := by
          show (inB client 0 1 && (inB num 1 99 && (inB kind 1 2 && (keysS kind keys && (inB val 0 9999 && (depsOkB ctx && (depsOkB needs && (inB beg 1 t && (kindS ⟨client, num, kind, keys, val, ctx, beg, fin, ovr, time, site, got, needs, ka, kc, xa, xc, (some ⟨b, off, none⟩), gc, na, nc⟩ && (anFrom (qS keys) none (ps got) && ((decide (needs.length = 0) || decide (keys.length ≤ got.length)) && (needs.all (needS (ps got)) && finS ⟨client, num, kind, keys, val, ctx, beg, fin, ovr, time, site, got, needs, ka, kc, xa, xc, (some ⟨b, off, none⟩), gc, na, nc⟩ t)))))))))))) = _
          rw [HALL.out, an_bad _ _ (k + 1) (by rw [HT.out, qS, hkk]; simp)]
          rfl
        clear ha hkk hprev
        go_wp2
        refine region_over (by kernel_rfl) (by kernel_rfl) ?_
        repeat (go_big_quiet_step (first | (go_at_call 89; exact quiet_over (bool_is HA.out (l31Answer_spec got[k].p _ _ _ ((hdp.below hBw).below (over_below _ _)) hdl))) | (go_at_call 90; exact quiet_over_same (bool_is HK.out (l31Has_spec keys ka kc _ _ ((hin.ks.below hBw).below (over_below _ _)) hl1)))))
        refine wpQuiet_nil ?_
        intro w9 hb9
        have G1 := below_after hBw hb9
        go_wp2
        go_ret
        exact ⟨by rw [HB.out]; rfl, G1⟩
      have HK := Lib.hid hkk
      by_cases h0 : 0 < k
      · have hj : k - 1 < got.length := by omega
        have h00 : (0 : Int) < (k : Int) := by omega
        have hj0 : (0 : Int) ≤ (k : Int) - 1 := by omega
        have hj1 : (k : Int) - 1 < (got.length : Int) := by omega
        have d0 := hprev hj
        clear hprev
        by_cases hle : (got[k - 1]'hj).p.key < got[k].p.key
        · have HN : Hid (anFrom (qS keys) none ((ps got).take (k + 1)) = true) := by show _ = _; rw [HT.out, HO.out, qS, ha, hkk, decide_eq_true hle, Bool.or_true]; rfl
          have hle' : decide (got[k].p.key ≤ (got[k - 1]'hj).p.key) = false := decide_eq_false (by omega)
          clear hle ha hkk
          go_wp2
          refine region_over (by kernel_rfl) (by kernel_rfl) ?_
          repeat (go_big_quiet_step (first | (go_at_call 89; exact quiet_over (bool_is HA.out (l31Answer_spec got[k].p _ _ _ ((hdp.below hBw).below (over_below _ _)) hdl))) | (go_at_call 90; exact quiet_over_same (bool_is HK.out (l31Has_spec keys ka kc _ _ ((hin.ks.below hBw).below (over_below _ _)) hl1)))))
          refine wpQuiet_nil ?_
          intro w9 hb9
          have G1 := below_after hBw hb9
          go_wp2
          have BV := BV.below hb9 BV.lt
          go_roundw
          case rel => exact ⟨k + 1, by omega, by go_num, HN.out, BV, G1⟩
          case measure => simp [intOf]; omega
        · skip
          have HB : Hid (callOkS ⟨client, num, kind, keys, val, ctx, beg, fin, ovr, time, site, got, needs, ka, kc, xa, xc, (some ⟨b, off, none⟩), gc, na, nc⟩ t = false) := by
            show (inB client 0 1 && (inB num 1 99 && (inB kind 1 2 && (keysS kind keys && (inB val 0 9999 && (depsOkB ctx && (depsOkB needs && (inB beg 1 t && (kindS ⟨client, num, kind, keys, val, ctx, beg, fin, ovr, time, site, got, needs, ka, kc, xa, xc, (some ⟨b, off, none⟩), gc, na, nc⟩ && (anFrom (qS keys) none (ps got) && ((decide (needs.length = 0) || decide (keys.length ≤ got.length)) && (needs.all (needS (ps got)) && finS ⟨client, num, kind, keys, val, ctx, beg, fin, ovr, time, site, got, needs, ka, kc, xa, xc, (some ⟨b, off, none⟩), gc, na, nc⟩ t)))))))))))) = _
            rw [HALL.out, an_bad _ _ (k + 1) (by rw [HT.out, decide_eq_false hle, decide_eq_false (show ¬ k = 0 by omega)]; simp)]
            rfl
          have hle' : got[k].p.key ≤ (got[k - 1]'hj).p.key := by omega
          clear hle ha hkk
          go_wp2
          refine region_over (by kernel_rfl) (by kernel_rfl) ?_
          repeat (go_big_quiet_step (first | (go_at_call 89; exact quiet_over (bool_is HA.out (l31Answer_spec got[k].p _ _ _ ((hdp.below hBw).below (over_below _ _)) hdl))) | (go_at_call 90; exact quiet_over_same (bool_is HK.out (l31Has_spec keys ka kc _ _ ((hin.ks.below hBw).below (over_below _ _)) hl1)))))
          refine wpQuiet_nil ?_
          intro w9 hb9
          have G1 := below_after hBw hb9
          go_wp2
          go_ret
          exact ⟨by rw [HB.out]; rfl, G1⟩
      · have HN : Hid (anFrom (qS keys) none ((ps got).take (k + 1)) = true) := by show _ = _; rw [HT.out, HO.out, qS, ha, hkk, decide_eq_true (show k = 0 by omega)]; rfl
        have h00 : (k : Int) ≤ 0 := by omega
        clear ha hkk hprev
        go_wp2
        refine region_over (by kernel_rfl) (by kernel_rfl) ?_
        repeat (go_big_quiet_step (first | (go_at_call 89; exact quiet_over (bool_is HA.out (l31Answer_spec got[k].p _ _ _ ((hdp.below hBw).below (over_below _ _)) hdl))) | (go_at_call 90; exact quiet_over_same (bool_is HK.out (l31Has_spec keys ka kc _ _ ((hin.ks.below hBw).below (over_below _ _)) hl1)))))
        refine wpQuiet_nil ?_
        intro w9 hb9
        have G1 := below_after hBw hb9
        go_wp2
        have BV := BV.below hb9 BV.lt
        go_roundw
        case rel => exact ⟨k + 1, by omega, by go_num, HN.out, BV, G1⟩
        case measure => simp [intOf]; omega
    obtain rfl : k = got.length := by omega
    have H1 : Hid (anFrom (qS keys) none (ps got) = true) := an_end HO.out
    clear HO hk hlt
    obtain ⟨p0, p1, p2, p3, p4, p5, p6, p7, p8, p9, p10, p11, p12, pf, pl⟩ := BV.call
    have G0 := hBw
    clear hBw
    by_cases hall : needs.length = 0 ∨ keys.length ≤ got.length
    rotate_left
    · have y1 : (0 : Int) < (needs.length : Int) := by omega
      have y2 : 0 < needs.length := by omega
      have y3 : (got.length : Int) < (keys.length : Int) := by omega
      have y4 : got.length < keys.length := by omega
      have HB : Hid (callOkS ⟨client, num, kind, keys, val, ctx, beg, fin, ovr, time, site, got, needs, ka, kc, xa, xc, ga, gc, na, nc⟩ t = false) := by
        show (inB client 0 1 && (inB num 1 99 && (inB kind 1 2 && (keysS kind keys && (inB val 0 9999 && (depsOkB ctx && (depsOkB needs && (inB beg 1 t && (kindS ⟨client, num, kind, keys, val, ctx, beg, fin, ovr, time, site, got, needs, ka, kc, xa, xc, ga, gc, na, nc⟩ && (anFrom (qS keys) none (ps got) && ((decide (needs.length = 0) || decide (keys.length ≤ got.length)) && (needs.all (needS (ps got)) && finS ⟨client, num, kind, keys, val, ctx, beg, fin, ovr, time, site, got, needs, ka, kc, xa, xc, ga, gc, na, nc⟩ t)))))))))))) = _
        rw [HALL.out, H1.out, decide_eq_false (show ¬ needs.length = 0 by omega), decide_eq_false (show ¬ keys.length ≤ got.length by omega)]
        rfl
      clear hall
      go_wp2
      go_ret
      exact ⟨by rw [HB.out]; rfl, G0⟩
    have HD : Hid ((decide (needs.length = 0) || decide (keys.length ≤ got.length)) = true) := by
      show _ = _
      rcases hall with h | h
      · rw [decide_eq_true h]; rfl
      · rw [decide_eq_true h, Bool.or_true]
    have hcs : (decide ((0 : Int) < (needs.length : Int)) = false ∧ decide (0 < needs.length) = false) ∨ ((0 : Int) < (needs.length : Int) ∧ 0 < needs.length ∧ decide ((got.length : Int) < (keys.length : Int)) = false ∧ decide (got.length < keys.length) = false) := by
      by_cases h : needs.length = 0
      · exact .inl ⟨decide_eq_false (by omega), decide_eq_false (by omega)⟩
      · exact .inr ⟨by omega, by omega, decide_eq_false (by omega), decide_eq_false (by omega)⟩
    clear hall
    rcases hcs with ⟨y1, y2⟩ | ⟨y1, y2, y3, y4⟩
    all_goals (
      go_wp2
      go_loopw [6] (fun i wr => ∃ k : Nat, k ≤ needs.length ∧ i = .int .i64 k ∧ (needs.take k).all (needS (ps got)) = true ∧ Blk wr w.heap.size #[.int .i64 client, .int .i64 num, .int .i64 kind, .slice ka keys.length kc, .int .i64 val, .slice xa ctx.length xc, .int .i64 beg, .int .i64 fin, .bool ovr, .int .i64 time, .int .i64 site, .slice ga got.length gc, .slice na needs.length nc] 73 ∧ Below w.heap.size w wr) (fun i _ => needs.length - (intOf i).toNat)
      case atStart => exact ⟨0, Nat.zero_le _, rfl, by simp, BV, G0⟩
      case round =>
        obtain ⟨k, hk, rfl, hok, BV, hBw⟩ := hrel
        have HO := Lib.hid hok
        clear hok
        clear p0 p1 p2 p3 p4 p5 p6 p7 p8 p9 p10 p11 p12 pf pl G0
        (try clear y1); (try clear y2); (try clear y3); (try clear y4)
        by_cases hlt : k < needs.length
        · have hi0 : (0 : Int) ≤ (k : Int) := by omega
          have hi1 : (k : Int) < (needs.length : Int) := by omega
          obtain ⟨_, _, h3⟩ := hin.nd.below hBw
          obtain ⟨b, off, rfl, hbl, hcell⟩ := h3 (dpsC_ne (l := needs) (by omega))
          obtain ⟨g0, g1, g2⟩ := dpsC_get needs k hlt
          obtain ⟨c0, c1, c2, _⟩ := cells3 (Below.refl _ wr) hbl (hcell _ _ g0) (hcell _ _ g1) (hcell _ _ g2)
          rw [← Nat.add_assoc] at c1 c2
          clear hcell h3 g0 g1 g2
          obtain ⟨p0, p1, p2, p3, p4, p5, p6, p7, p8, p9, p10, p11, p12, pf, pl⟩ := BV.call
          have HT := Lib.hid (all_take (p := needS (ps got)) needs k hlt)
          have hcase := idxA_cases got needs[k].1
          rcases hcase with ⟨hi, hg⟩ | ⟨j, hj, hi, hg⟩
          · have HI := Lib.hid hi
            have HB : Hid (callOkS ⟨client, num, kind, keys, val, ctx, beg, fin, ovr, time, site, got, needs, ka, kc, xa, xc, ga, gc, (some ⟨b, off, none⟩), nc⟩ t = false) := by
              show (inB client 0 1 && (inB num 1 99 && (inB kind 1 2 && (keysS kind keys && (inB val 0 9999 && (depsOkB ctx && (depsOkB needs && (inB beg 1 t && (kindS ⟨client, num, kind, keys, val, ctx, beg, fin, ovr, time, site, got, needs, ka, kc, xa, xc, ga, gc, (some ⟨b, off, none⟩), nc⟩ && (anFrom (qS keys) none (ps got) && ((decide (needs.length = 0) || decide (keys.length ≤ got.length)) && (needs.all (needS (ps got)) && finS ⟨client, num, kind, keys, val, ctx, beg, fin, ovr, time, site, got, needs, ka, kc, xa, xc, ga, gc, (some ⟨b, off, none⟩), nc⟩ t)))))))))))) = _
              rw [HALL.out, H1.out, HD.out, all_bad (p := needS (ps got)) k hlt (by rw [needS, hg])]
              rfl
            clear hg hi
            go_wp2
            refine region_over (by kernel_rfl) (by kernel_rfl) ?_
            repeat (go_big_quiet_step (first | (go_at_call 91; exact quiet_over (int_is HI.out (l31Got_spec ⟨client, num, kind, keys, val, ctx, beg, fin, ovr, time, site, got, needs, ka, kc, xa, xc, ga, gc, (some ⟨b, off, none⟩), nc⟩ ga needs[k].1 _ ((hin.gt.below hBw).below (over_below _ _)) hl2)))))
            refine wpQuiet_nil ?_
            intro w9 hb9
            have G1 := below_after hBw hb9
            have BV := BV.below hb9 BV.lt
            obtain ⟨c0, c1, c2, hbl⟩ := cells3 hb9 hbl c0 c1 c2
            clear p0 p1 p2 p3 p4 p5 p6 p7 p8 p9 p10 p11 p12 pf pl
            obtain ⟨p0, p1, p2, p3, p4, p5, p6, p7, p8, p9, p10, p11, p12, pf, pl⟩ := BV.call
            go_wp2
            refine region_over (by kernel_rfl) (by kernel_rfl) ?_
            repeat (go_big_quiet_step (fail))
            refine wpQuiet_nil ?_
            intro w10 hb10
            have G2 := below_after G1 hb10
            go_wp2
            go_ret
            exact ⟨by rw [HB.out]; rfl, G2⟩
          · have HI := Lib.hid hi
            have HQ : Hid (needS (ps got) needs[k] = stampLessB got[j].p.v.time got[j].p.v.site needs[k].2.1 needs[k].2.2) := by show _ = _; rw [needS, hg]
            clear hg hi
            have hj0 : (0 : Int) ≤ (j : Int) := by omega
            have hjn : decide ((j : Int) < 0) = false := decide_eq_false (by omega)
            have hj1 : (j : Int) < (got.length : Int) := by omega
            have hgt := hin.gt
            obtain ⟨b2, off2, rfl, hbl2, _, _, _, d3, d4, _⟩ := hgt.at_ j hj
            clear hgt
            go_wp2
            refine region_over (by kernel_rfl) (by kernel_rfl) ?_
            repeat (go_big_quiet_step (first | (go_at_call 91; exact quiet_over (int_is HI.out (l31Got_spec ⟨client, num, kind, keys, val, ctx, beg, fin, ovr, time, site, got, needs, ka, kc, xa, xc, (some ⟨b2, off2, none⟩), gc, (some ⟨b, off, none⟩), nc⟩ (some ⟨b2, off2, none⟩) needs[k].1 _ ((hin.gt.below hBw).below (over_below _ _)) hl2)))))
            refine wpQuiet_nil ?_
            intro w9 hb9
            have G1 := below_after hBw hb9
            have BV := BV.below hb9 BV.lt
            obtain ⟨c0, c1, c2, hbl⟩ := cells3 hb9 hbl c0 c1 c2
            have d3 := (G1.cell (p := ⟨b2, off2 + j * 9 + 3, none⟩) hbl2).trans d3
            have d4 := (G1.cell (p := ⟨b2, off2 + j * 9 + 4, none⟩) hbl2).trans d4
            have hbl2 := Nat.lt_of_lt_of_le hbl2 G1.size
            clear p0 p1 p2 p3 p4 p5 p6 p7 p8 p9 p10 p11 p12 pf pl
            obtain ⟨p0, p1, p2, p3, p4, p5, p6, p7, p8, p9, p10, p11, p12, pf, pl⟩ := BV.call
            rcases ho : stampLessB got[j].p.v.time got[j].p.v.site needs[k].2.1 needs[k].2.2 with _ | _
            · have HO2 := Lib.hid ho
              have HB : Hid (callOkS ⟨client, num, kind, keys, val, ctx, beg, fin, ovr, time, site, got, needs, ka, kc, xa, xc, (some ⟨b2, off2, none⟩), gc, (some ⟨b, off, none⟩), nc⟩ t = false) := by
                show (inB client 0 1 && (inB num 1 99 && (inB kind 1 2 && (keysS kind keys && (inB val 0 9999 && (depsOkB ctx && (depsOkB needs && (inB beg 1 t && (kindS ⟨client, num, kind, keys, val, ctx, beg, fin, ovr, time, site, got, needs, ka, kc, xa, xc, (some ⟨b2, off2, none⟩), gc, (some ⟨b, off, none⟩), nc⟩ && (anFrom (qS keys) none (ps got) && ((decide (needs.length = 0) || decide (keys.length ≤ got.length)) && (needs.all (needS (ps got)) && finS ⟨client, num, kind, keys, val, ctx, beg, fin, ovr, time, site, got, needs, ka, kc, xa, xc, (some ⟨b2, off2, none⟩), gc, (some ⟨b, off, none⟩), nc⟩ t)))))))))))) = _
                rw [HALL.out, H1.out, HD.out, all_bad (p := needS (ps got)) k hlt (by rw [HQ.out, ho])]
                rfl
              clear ho
              go_wp2
              refine region_over (by kernel_rfl) (by kernel_rfl) ?_
              repeat (go_big_quiet_step (first | (go_at_call 92; exact quiet_over (bool_is HO2.out (stampLess_spec _ _ _ _ _)))))
              refine wpQuiet_nil ?_
              intro w10 hb10
              have G2 := below_after G1 hb10
              go_wp2
              go_ret
              exact ⟨by rw [HB.out]; rfl, G2⟩
            · have HO2 := Lib.hid ho
              have HN : Hid ((needs.take (k + 1)).all (needS (ps got)) = true) := by show _ = _; rw [HT.out, HO.out, HQ.out, ho]; rfl
              clear ho
              go_wp2
              refine region_over (by kernel_rfl) (by kernel_rfl) ?_
              repeat (go_big_quiet_step (first | (go_at_call 92; exact quiet_over (bool_is HO2.out (stampLess_spec _ _ _ _ _)))))
              refine wpQuiet_nil ?_
              intro w10 hb10
              have G2 := below_after G1 hb10
              have BV := BV.below hb10 BV.lt
              go_wp2
              go_roundw
              case rel => exact ⟨k + 1, by omega, by go_num, HN.out, BV, G2⟩
              case measure => simp [intOf]; omega
        obtain rfl : k = needs.length := by omega
        have H2 : Hid (needs.all (needS (ps got)) = true) := by have := HO.out; rwa [List.take_length] at this
        have HEQ : Hid (callOkS ⟨client, num, kind, keys, val, ctx, beg, fin, ovr, time, site, got, needs, ka, kc, xa, xc, ga, gc, na, nc⟩ t = finS ⟨client, num, kind, keys, val, ctx, beg, fin, ovr, time, site, got, needs, ka, kc, xa, xc, ga, gc, na, nc⟩ t) := by
          show (inB client 0 1 && (inB num 1 99 && (inB kind 1 2 && (keysS kind keys && (inB val 0 9999 && (depsOkB ctx && (depsOkB needs && (inB beg 1 t && (kindS ⟨client, num, kind, keys, val, ctx, beg, fin, ovr, time, site, got, needs, ka, kc, xa, xc, ga, gc, na, nc⟩ && (anFrom (qS keys) none (ps got) && ((decide (needs.length = 0) || decide (keys.length ≤ got.length)) && (needs.all (needS (ps got)) && finS ⟨client, num, kind, keys, val, ctx, beg, fin, ovr, time, site, got, needs, ka, kc, xa, xc, ga, gc, na, nc⟩ t)))))))))))) = _
          rw [HALL.out, H1.out, HD.out, H2.out]
          rfl
        clear HO hk hlt
        have G0 := hBw
        clear hBw
        obtain ⟨p0, p1, p2, p3, p4, p5, p6, p7, p8, p9, p10, p11, p12, pf, pl⟩ := BV.call
        by_cases hf0 : fin = 0
        · skip
          have hf0' : (fin == 0) = true := by simpa using hf0
          have hfv : finS ⟨client, num, kind, keys, val, ctx, beg, fin, ovr, time, site, got, needs, ka, kc, xa, xc, ga, gc, na, nc⟩ t = true := by show (if fin = 0 then (decide (time = 0) && decide (site = 0)) else _) = _; rw [if_pos hf0, HT0.out, HS0.out]; rfl
          have HB : Hid (callOkS ⟨client, num, kind, keys, val, ctx, beg, fin, ovr, time, site, got, needs, ka, kc, xa, xc, ga, gc, na, nc⟩ t = true) := HEQ.out.trans hfv
          clear hfv hf0
          go_wp2
          go_ret
          exact ⟨by rw [HB.out]; rfl, G0⟩
        have hf0' : (fin == 0) = false := by simpa using hf0
        have hfin : finS ⟨client, num, kind, keys, val, ctx, beg, fin, ovr, time, site, got, needs, ka, kc, xa, xc, ga, gc, na, nc⟩ t = (!ovr && (inB fin (nextI beg) t && (decide (needs.length = 0) && ((decide (kind = 1) && stampOkB time site) || (decide (kind = 2) && decide (got.length = keys.length)))))) := by show (if fin = 0 then _ else _) = _; rw [if_neg hf0]
        rw [K1.out, K2.out] at hfin
        clear hf0
        rcases Bool.eq_false_or_eq_true ovr with hov | hov
        · skip
          have hfv : finS ⟨client, num, kind, keys, val, ctx, beg, fin, ovr, time, site, got, needs, ka, kc, xa, xc, ga, gc, na, nc⟩ t = false := by rw [hfin, hov]; rfl
          have HB : Hid (callOkS ⟨client, num, kind, keys, val, ctx, beg, fin, ovr, time, site, got, needs, ka, kc, xa, xc, ga, gc, na, nc⟩ t = false) := HEQ.out.trans hfv
          clear hfv hfin
          go_wp2_with (first | (go_at_call 54; refine (in_spec _ _ _ _).mono ?_; rintro e w' ⟨rfl, rfl⟩))
          go_ret
          exact ⟨by rw [HB.out]; rfl, G0⟩
        have hni : inB fin (wrap64 (beg + 1)) t = inB fin (nextI beg) t := by rw [nextI, show IntKind.i64.wrap (beg + 1) = wrap64 (beg + 1) from by rw [IntKind.wrap_i64]; unfold wrap64; omega]
        rcases hfi : inB fin (nextI beg) t with _ | _
        · skip
          have hfv : finS ⟨client, num, kind, keys, val, ctx, beg, fin, ovr, time, site, got, needs, ka, kc, xa, xc, ga, gc, na, nc⟩ t = false := by rw [hfin, hov, hfi]; rfl
          have HB : Hid (callOkS ⟨client, num, kind, keys, val, ctx, beg, fin, ovr, time, site, got, needs, ka, kc, xa, xc, ga, gc, na, nc⟩ t = false) := HEQ.out.trans hfv
          clear hfv hfin
          rw [hfi] at hni
          go_wp2_with (first | (go_at_call 54; refine (in_spec _ _ _ _).mono ?_; rintro e w' ⟨rfl, rfl⟩))
          go_ret
          exact ⟨by rw [HB.out]; rfl, G0⟩
        rw [hfi] at hni
        by_cases hnl : needs.length = 0
        rotate_left
        · skip
          have z5 : ((needs.length : Int) == 0) = false := by rw [beq_eq_false_iff_ne]; omega
          have hfv : finS ⟨client, num, kind, keys, val, ctx, beg, fin, ovr, time, site, got, needs, ka, kc, xa, xc, ga, gc, na, nc⟩ t = false := by rw [hfin, hov, hfi, decide_eq_false hnl]; rfl
          have HB : Hid (callOkS ⟨client, num, kind, keys, val, ctx, beg, fin, ovr, time, site, got, needs, ka, kc, xa, xc, ga, gc, na, nc⟩ t = false) := HEQ.out.trans hfv
          clear hfv hfin hnl
          go_wp2_with (first | (go_at_call 54; refine (in_spec _ _ _ _).mono ?_; rintro e w' ⟨rfl, rfl⟩))
          go_ret
          exact ⟨by rw [HB.out]; rfl, G0⟩
        have z5 : ((needs.length : Int) == 0) = true := by rw [beq_iff_eq]; omega
        by_cases hgl : got.length = keys.length
        rotate_left
        · skip
          have z6 : ((got.length : Int) == (keys.length : Int)) = false := by rw [beq_eq_false_iff_ne]; omega
          have hfv : finS ⟨client, num, kind, keys, val, ctx, beg, fin, ovr, time, site, got, needs, ka, kc, xa, xc, ga, gc, na, nc⟩ t = false := by rw [hfin, hov, hfi, decide_eq_true hnl, decide_eq_false hgl]; rfl
          have HB : Hid (callOkS ⟨client, num, kind, keys, val, ctx, beg, fin, ovr, time, site, got, needs, ka, kc, xa, xc, ga, gc, na, nc⟩ t = false) := HEQ.out.trans hfv
          clear hfv hfin hnl hgl
          go_wp2_with (first | (go_at_call 54; refine (in_spec _ _ _ _).mono ?_; rintro e w' ⟨rfl, rfl⟩))
          go_ret
          exact ⟨by rw [HB.out]; rfl, G0⟩
        have z6 : ((got.length : Int) == (keys.length : Int)) = true := by rw [beq_iff_eq]; omega
        have hfv : finS ⟨client, num, kind, keys, val, ctx, beg, fin, ovr, time, site, got, needs, ka, kc, xa, xc, ga, gc, na, nc⟩ t = true := by rw [hfin, hov, hfi, decide_eq_true hnl, decide_eq_true hgl]; rfl
        have HB : Hid (callOkS ⟨client, num, kind, keys, val, ctx, beg, fin, ovr, time, site, got, needs, ka, kc, xa, xc, ga, gc, na, nc⟩ t = true) := HEQ.out.trans hfv
        clear hfv hfin hnl hgl
        go_wp2_with (first | (go_at_call 54; refine (in_spec _ _ _ _).mono ?_; rintro e w' ⟨rfl, rfl⟩))
        go_ret
        exact ⟨by rw [HB.out]; rfl, G0⟩)
end Go.Proofs.Ythciikogogkfcaa
