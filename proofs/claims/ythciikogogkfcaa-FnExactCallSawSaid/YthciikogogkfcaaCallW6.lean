/- A call's validity: the reference's, of a put. -/
import Derived.Test.YthciikogogkfcaaCallW5
import Derived.Test.YthciikogogkfcaaWordW
import Derived.Deep.CutRange
namespace Go.Proofs.Ythciikogogkfcaa
open Go.RowKit Go.Deep
set_option linter.unusedVariables false

set_option maxRecDepth 100000 in
set_option maxHeartbeats 4000000 in
theorem CallOk_spec_0 (client : Int) (num : Int) (kind : Int) (keys : List Int) (val : Int) (ctx : List Dp) (beg : Int) (fin : Int) (ovr : Bool) (time : Int) (site : Int) (got : List An) (needs : List Dp) (ka : Option Addr) (kc : Nat) (xa : Option Addr) (xc : Nat) (ga : Option Addr) (gc : Nat) (na : Option Addr) (nc : Nat) (t : Int) (w : World) (hin : CallIn w ⟨client, num, kind, keys, val, ctx, beg, fin, ovr, time, site, got, needs, ka, kc, xa, xc, ga, gc, na, nc⟩) (hf : FewC ⟨client, num, kind, keys, val, ctx, beg, fin, ovr, time, site, got, needs, ka, kc, xa, xc, ga, gc, na, nc⟩) (hk1 : ¬ kind = 1) (hk2 : ¬ kind = 2) :
    Calls Try.prog 35 #[.agg #[.int .i64 client, .int .i64 num, .int .i64 kind, .slice ka keys.length kc, .int .i64 val, .slice xa ctx.length xc, .int .i64 beg, .int .i64 fin, .bool ovr, .int .i64 time, .int .i64 site, .slice ga got.length gc, .slice na needs.length nc], .int .i64 t] w (Says (callOkS ⟨client, num, kind, keys, val, ctx, beg, fin, ovr, time, site, got, needs, ka, kc, xa, xc, ga, gc, na, nc⟩ t) w) := by
  have BV := Blk.new w #[.int .i64 client, .int .i64 num, .int .i64 kind, .slice ka keys.length kc, .int .i64 val, .slice xa ctx.length xc, .int .i64 beg, .int .i64 fin, .bool ovr, .int .i64 time, .int .i64 site, .slice ga got.length gc, .slice na needs.length nc] 73
  have G0 := below_box w (.cells #[.int .i64 client, .int .i64 num, .int .i64 kind, .slice ka keys.length kc, .int .i64 val, .slice xa ctx.length xc, .int .i64 beg, .int .i64 fin, .bool ovr, .int .i64 time, .int .i64 site, .slice ga got.length gc, .slice na needs.length nc] 73)
  have hl1 : keys.length ≤ 1048577 := hf.ks
  have hl2 : got.length ≤ 1048577 := hf.gt.1
  have hl3 : needs.length ≤ 1048577 := hf.nd
  have hl4 : ctx.length ≤ 1048577 := hf.cx
  obtain ⟨p0, p1, p2, p3, p4, p5, p6, p7, p8, p9, p10, p11, p12, pf, pl⟩ := BV.call
  go_enter Try.func35, Try.ntmps35
  try simp only [List.append_eq, List.cons_append, List.nil_append]
  rcases h0 : inB client 0 1 with _ | _
  · skip
    have HB : Hid (callOkS ⟨client, num, kind, keys, val, ctx, beg, fin, ovr, time, site, got, needs, ka, kc, xa, xc, ga, gc, na, nc⟩ t = false) := by
      show (inB client 0 1 && (inB num 1 99 && (inB kind 1 2 && (keysS kind keys && (inB val 0 9999 && (depsOkB ctx && (depsOkB needs && (inB beg 1 t && (kindS ⟨client, num, kind, keys, val, ctx, beg, fin, ovr, time, site, got, needs, ka, kc, xa, xc, ga, gc, na, nc⟩ && (anFrom (qS keys) none (ps got) && ((decide (needs.length = 0) || decide (keys.length ≤ got.length)) && (needs.all (needS (ps got)) && finS ⟨client, num, kind, keys, val, ctx, beg, fin, ovr, time, site, got, needs, ka, kc, xa, xc, ga, gc, na, nc⟩ t)))))))))))) = _
      rw [h0]
      all_goals rfl
    go_wp2_with (first | (go_at_call 54; refine (in_spec _ _ _ _).mono ?_; rintro e w' ⟨rfl, rfl⟩))
    go_ret
    exact ⟨by rw [HB.out]; rfl, G0⟩
  rcases h1 : inB num 1 99 with _ | _
  · skip
    have HB : Hid (callOkS ⟨client, num, kind, keys, val, ctx, beg, fin, ovr, time, site, got, needs, ka, kc, xa, xc, ga, gc, na, nc⟩ t = false) := by
      show (inB client 0 1 && (inB num 1 99 && (inB kind 1 2 && (keysS kind keys && (inB val 0 9999 && (depsOkB ctx && (depsOkB needs && (inB beg 1 t && (kindS ⟨client, num, kind, keys, val, ctx, beg, fin, ovr, time, site, got, needs, ka, kc, xa, xc, ga, gc, na, nc⟩ && (anFrom (qS keys) none (ps got) && ((decide (needs.length = 0) || decide (keys.length ≤ got.length)) && (needs.all (needS (ps got)) && finS ⟨client, num, kind, keys, val, ctx, beg, fin, ovr, time, site, got, needs, ka, kc, xa, xc, ga, gc, na, nc⟩ t)))))))))))) = _
      rw [h0, h1]
      all_goals rfl
    go_wp2_with (first | (go_at_call 54; refine (in_spec _ _ _ _).mono ?_; rintro e w' ⟨rfl, rfl⟩))
    go_ret
    exact ⟨by rw [HB.out]; rfl, G0⟩
  rcases h2 : inB kind 1 2 with _ | _
  · skip
    have HB : Hid (callOkS ⟨client, num, kind, keys, val, ctx, beg, fin, ovr, time, site, got, needs, ka, kc, xa, xc, ga, gc, na, nc⟩ t = false) := by
      show (inB client 0 1 && (inB num 1 99 && (inB kind 1 2 && (keysS kind keys && (inB val 0 9999 && (depsOkB ctx && (depsOkB needs && (inB beg 1 t && (kindS ⟨client, num, kind, keys, val, ctx, beg, fin, ovr, time, site, got, needs, ka, kc, xa, xc, ga, gc, na, nc⟩ && (anFrom (qS keys) none (ps got) && ((decide (needs.length = 0) || decide (keys.length ≤ got.length)) && (needs.all (needS (ps got)) && finS ⟨client, num, kind, keys, val, ctx, beg, fin, ovr, time, site, got, needs, ka, kc, xa, xc, ga, gc, na, nc⟩ t)))))))))))) = _
      rw [h0, h1, h2]
      all_goals rfl
    go_wp2_with (first | (go_at_call 54; refine (in_spec _ _ _ _).mono ?_; rintro e w' ⟨rfl, rfl⟩))
    go_ret
    exact ⟨by rw [HB.out]; rfl, G0⟩
  exfalso
  have := inB_iff.1 h2
  omega
set_option maxRecDepth 100000 in
set_option maxHeartbeats 16000000 in
theorem CallOk_spec_1 (client : Int) (num : Int) (kind : Int) (keys : List Int) (val : Int) (ctx : List Dp) (beg : Int) (fin : Int) (ovr : Bool) (time : Int) (site : Int) (got : List An) (needs : List Dp) (ka : Option Addr) (kc : Nat) (xa : Option Addr) (xc : Nat) (ga : Option Addr) (gc : Nat) (na : Option Addr) (nc : Nat) (t : Int) (w : World) (hin : CallIn w ⟨client, num, kind, keys, val, ctx, beg, fin, ovr, time, site, got, needs, ka, kc, xa, xc, ga, gc, na, nc⟩) (hf : FewC ⟨client, num, kind, keys, val, ctx, beg, fin, ovr, time, site, got, needs, ka, kc, xa, xc, ga, gc, na, nc⟩) (hkind : kind = 1) :
    Calls Try.prog 35 #[.agg #[.int .i64 client, .int .i64 num, .int .i64 kind, .slice ka keys.length kc, .int .i64 val, .slice xa ctx.length xc, .int .i64 beg, .int .i64 fin, .bool ovr, .int .i64 time, .int .i64 site, .slice ga got.length gc, .slice na needs.length nc], .int .i64 t] w (Says (callOkS ⟨client, num, kind, keys, val, ctx, beg, fin, ovr, time, site, got, needs, ka, kc, xa, xc, ga, gc, na, nc⟩ t) w) := by
  have BV := Blk.new w #[.int .i64 client, .int .i64 num, .int .i64 kind, .slice ka keys.length kc, .int .i64 val, .slice xa ctx.length xc, .int .i64 beg, .int .i64 fin, .bool ovr, .int .i64 time, .int .i64 site, .slice ga got.length gc, .slice na needs.length nc] 73
  have G0 := below_box w (.cells #[.int .i64 client, .int .i64 num, .int .i64 kind, .slice ka keys.length kc, .int .i64 val, .slice xa ctx.length xc, .int .i64 beg, .int .i64 fin, .bool ovr, .int .i64 time, .int .i64 site, .slice ga got.length gc, .slice na needs.length nc] 73)
  have hl1 : keys.length ≤ 1048577 := hf.ks
  have hl2 : got.length ≤ 1048577 := hf.gt.1
  have hl3 : needs.length ≤ 1048577 := hf.nd
  have hl4 : ctx.length ≤ 1048577 := hf.cx
  obtain ⟨p0, p1, p2, p3, p4, p5, p6, p7, p8, p9, p10, p11, p12, pf, pl⟩ := BV.call
  go_enter Try.func35, Try.ntmps35
  try simp only [List.append_eq, List.cons_append, List.nil_append]
  have h2 : inB kind 1 2 = true := inB_iff.2 ⟨by omega, by omega⟩
  have HKI := Lib.hid hkind
  clear hkind
  rcases h0 : inB client 0 1 with _ | _
  · skip
    have HB : Hid (callOkS ⟨client, num, kind, keys, val, ctx, beg, fin, ovr, time, site, got, needs, ka, kc, xa, xc, ga, gc, na, nc⟩ t = false) := by
      show (inB client 0 1 && (inB num 1 99 && (inB kind 1 2 && (keysS kind keys && (inB val 0 9999 && (depsOkB ctx && (depsOkB needs && (inB beg 1 t && (kindS ⟨client, num, kind, keys, val, ctx, beg, fin, ovr, time, site, got, needs, ka, kc, xa, xc, ga, gc, na, nc⟩ && (anFrom (qS keys) none (ps got) && ((decide (needs.length = 0) || decide (keys.length ≤ got.length)) && (needs.all (needS (ps got)) && finS ⟨client, num, kind, keys, val, ctx, beg, fin, ovr, time, site, got, needs, ka, kc, xa, xc, ga, gc, na, nc⟩ t)))))))))))) = _
      rw [h0]
      all_goals rfl
    go_wp2_with (first | (go_at_call 54; refine (in_spec _ _ _ _).mono ?_; rintro e w' ⟨rfl, rfl⟩))
    go_ret
    exact ⟨by rw [HB.out]; rfl, G0⟩
  rcases h1 : inB num 1 99 with _ | _
  · skip
    have HB : Hid (callOkS ⟨client, num, kind, keys, val, ctx, beg, fin, ovr, time, site, got, needs, ka, kc, xa, xc, ga, gc, na, nc⟩ t = false) := by
      show (inB client 0 1 && (inB num 1 99 && (inB kind 1 2 && (keysS kind keys && (inB val 0 9999 && (depsOkB ctx && (depsOkB needs && (inB beg 1 t && (kindS ⟨client, num, kind, keys, val, ctx, beg, fin, ovr, time, site, got, needs, ka, kc, xa, xc, ga, gc, na, nc⟩ && (anFrom (qS keys) none (ps got) && ((decide (needs.length = 0) || decide (keys.length ≤ got.length)) && (needs.all (needS (ps got)) && finS ⟨client, num, kind, keys, val, ctx, beg, fin, ovr, time, site, got, needs, ka, kc, xa, xc, ga, gc, na, nc⟩ t)))))))))))) = _
      rw [h0, h1]
      all_goals rfl
    go_wp2_with (first | (go_at_call 54; refine (in_spec _ _ _ _).mono ?_; rintro e w' ⟨rfl, rfl⟩))
    go_ret
    exact ⟨by rw [HB.out]; rfl, G0⟩
  go_wp2_with (first | (go_at_call 54; refine (in_spec _ _ _ _).mono ?_; rintro e w' ⟨rfl, rfl⟩))
  refine (l31Keys_spec ⟨client, num, kind, keys, val, ctx, beg, fin, ovr, time, site, got, needs, ka, kc, xa, xc, ga, gc, na, nc⟩ ka _ (hin.ks.below G0) hl1).mono ?_
  rintro e w3 ⟨rfl, hb3⟩
  have BV := BV.below hb3 BV.lt
  have G0 := below_after G0 hb3
  clear p0 p1 p2 p3 p4 p5 p6 p7 p8 p9 p10 p11 p12 pf pl
  obtain ⟨p0, p1, p2, p3, p4, p5, p6, p7, p8, p9, p10, p11, p12, pf, pl⟩ := BV.call
  rcases h3 : keysS kind keys with _ | _
  · skip
    have HB : Hid (callOkS ⟨client, num, kind, keys, val, ctx, beg, fin, ovr, time, site, got, needs, ka, kc, xa, xc, ga, gc, na, nc⟩ t = false) := by
      show (inB client 0 1 && (inB num 1 99 && (inB kind 1 2 && (keysS kind keys && (inB val 0 9999 && (depsOkB ctx && (depsOkB needs && (inB beg 1 t && (kindS ⟨client, num, kind, keys, val, ctx, beg, fin, ovr, time, site, got, needs, ka, kc, xa, xc, ga, gc, na, nc⟩ && (anFrom (qS keys) none (ps got) && ((decide (needs.length = 0) || decide (keys.length ≤ got.length)) && (needs.all (needS (ps got)) && finS ⟨client, num, kind, keys, val, ctx, beg, fin, ovr, time, site, got, needs, ka, kc, xa, xc, ga, gc, na, nc⟩ t)))))))))))) = _
      rw [h0, h1, h2, h3]
      all_goals rfl
    go_wp2_with (first | (go_at_call 54; refine (in_spec _ _ _ _).mono ?_; rintro e w' ⟨rfl, rfl⟩))
    go_ret
    exact ⟨by rw [HB.out]; rfl, G0⟩
  rcases h4 : inB val 0 9999 with _ | _
  · skip
    have HB : Hid (callOkS ⟨client, num, kind, keys, val, ctx, beg, fin, ovr, time, site, got, needs, ka, kc, xa, xc, ga, gc, na, nc⟩ t = false) := by
      show (inB client 0 1 && (inB num 1 99 && (inB kind 1 2 && (keysS kind keys && (inB val 0 9999 && (depsOkB ctx && (depsOkB needs && (inB beg 1 t && (kindS ⟨client, num, kind, keys, val, ctx, beg, fin, ovr, time, site, got, needs, ka, kc, xa, xc, ga, gc, na, nc⟩ && (anFrom (qS keys) none (ps got) && ((decide (needs.length = 0) || decide (keys.length ≤ got.length)) && (needs.all (needS (ps got)) && finS ⟨client, num, kind, keys, val, ctx, beg, fin, ovr, time, site, got, needs, ka, kc, xa, xc, ga, gc, na, nc⟩ t)))))))))))) = _
      rw [h0, h1, h2, h3, h4]
      all_goals rfl
    go_wp2_with (first | (go_at_call 54; refine (in_spec _ _ _ _).mono ?_; rintro e w' ⟨rfl, rfl⟩))
    go_ret
    exact ⟨by rw [HB.out]; rfl, G0⟩
  go_wp2_with (first | (go_at_call 54; refine (in_spec _ _ _ _).mono ?_; rintro e w' ⟨rfl, rfl⟩))
  refine (depsOk_spec ctx xa xc _ (hin.cx.below G0) hl4).mono ?_
  rintro e w5 ⟨rfl, hb5⟩
  have BV := BV.below hb5 BV.lt
  have G0 := below_after G0 hb5
  clear p0 p1 p2 p3 p4 p5 p6 p7 p8 p9 p10 p11 p12 pf pl
  obtain ⟨p0, p1, p2, p3, p4, p5, p6, p7, p8, p9, p10, p11, p12, pf, pl⟩ := BV.call
  rcases h5 : depsOkB ctx with _ | _
  · skip
    have HB : Hid (callOkS ⟨client, num, kind, keys, val, ctx, beg, fin, ovr, time, site, got, needs, ka, kc, xa, xc, ga, gc, na, nc⟩ t = false) := by
      show (inB client 0 1 && (inB num 1 99 && (inB kind 1 2 && (keysS kind keys && (inB val 0 9999 && (depsOkB ctx && (depsOkB needs && (inB beg 1 t && (kindS ⟨client, num, kind, keys, val, ctx, beg, fin, ovr, time, site, got, needs, ka, kc, xa, xc, ga, gc, na, nc⟩ && (anFrom (qS keys) none (ps got) && ((decide (needs.length = 0) || decide (keys.length ≤ got.length)) && (needs.all (needS (ps got)) && finS ⟨client, num, kind, keys, val, ctx, beg, fin, ovr, time, site, got, needs, ka, kc, xa, xc, ga, gc, na, nc⟩ t)))))))))))) = _
      rw [h0, h1, h2, h3, h4, h5]
      all_goals rfl
    go_wp2_with (first | (go_at_call 54; refine (in_spec _ _ _ _).mono ?_; rintro e w' ⟨rfl, rfl⟩))
    go_ret
    exact ⟨by rw [HB.out]; rfl, G0⟩
  go_wp2_with (first | (go_at_call 54; refine (in_spec _ _ _ _).mono ?_; rintro e w' ⟨rfl, rfl⟩))
  refine (depsOk_spec needs na nc _ (hin.nd.below G0) hl3).mono ?_
  rintro e w6 ⟨rfl, hb6⟩
  have BV := BV.below hb6 BV.lt
  have G0 := below_after G0 hb6
  clear p0 p1 p2 p3 p4 p5 p6 p7 p8 p9 p10 p11 p12 pf pl
  obtain ⟨p0, p1, p2, p3, p4, p5, p6, p7, p8, p9, p10, p11, p12, pf, pl⟩ := BV.call
  rcases h6 : depsOkB needs with _ | _
  · skip
    have HB : Hid (callOkS ⟨client, num, kind, keys, val, ctx, beg, fin, ovr, time, site, got, needs, ka, kc, xa, xc, ga, gc, na, nc⟩ t = false) := by
      show (inB client 0 1 && (inB num 1 99 && (inB kind 1 2 && (keysS kind keys && (inB val 0 9999 && (depsOkB ctx && (depsOkB needs && (inB beg 1 t && (kindS ⟨client, num, kind, keys, val, ctx, beg, fin, ovr, time, site, got, needs, ka, kc, xa, xc, ga, gc, na, nc⟩ && (anFrom (qS keys) none (ps got) && ((decide (needs.length = 0) || decide (keys.length ≤ got.length)) && (needs.all (needS (ps got)) && finS ⟨client, num, kind, keys, val, ctx, beg, fin, ovr, time, site, got, needs, ka, kc, xa, xc, ga, gc, na, nc⟩ t)))))))))))) = _
      rw [h0, h1, h2, h3, h4, h5, h6]
      all_goals rfl
    go_wp2_with (first | (go_at_call 54; refine (in_spec _ _ _ _).mono ?_; rintro e w' ⟨rfl, rfl⟩))
    go_ret
    exact ⟨by rw [HB.out]; rfl, G0⟩
  rcases h7 : inB beg 1 t with _ | _
  · skip
    have HB : Hid (callOkS ⟨client, num, kind, keys, val, ctx, beg, fin, ovr, time, site, got, needs, ka, kc, xa, xc, ga, gc, na, nc⟩ t = false) := by
      show (inB client 0 1 && (inB num 1 99 && (inB kind 1 2 && (keysS kind keys && (inB val 0 9999 && (depsOkB ctx && (depsOkB needs && (inB beg 1 t && (kindS ⟨client, num, kind, keys, val, ctx, beg, fin, ovr, time, site, got, needs, ka, kc, xa, xc, ga, gc, na, nc⟩ && (anFrom (qS keys) none (ps got) && ((decide (needs.length = 0) || decide (keys.length ≤ got.length)) && (needs.all (needS (ps got)) && finS ⟨client, num, kind, keys, val, ctx, beg, fin, ovr, time, site, got, needs, ka, kc, xa, xc, ga, gc, na, nc⟩ t)))))))))))) = _
      rw [h0, h1, h2, h3, h4, h5, h6, h7]
      all_goals rfl
    go_wp2_with (first | (go_at_call 54; refine (in_spec _ _ _ _).mono ?_; rintro e w' ⟨rfl, rfl⟩))
    go_ret
    exact ⟨by rw [HB.out]; rfl, G0⟩
  have hcat : IntKind.i64.wrap ((got.length : Int) + (needs.length : Int)) = (got.length : Int) + (needs.length : Int) := by rw [IntKind.wrap_i64]; omega
  have hkind := HKI.out
  have k2 : decide (kind = 2) = false := decide_eq_false (by omega)
  have k1 : decide (kind = 1) = true := decide_eq_true hkind
  have kk1 : (kind == 1) = true := by simpa using hkind
  have kk2 : (kind == 2) = false := by rw [beq_eq_false_iff_ne]; omega
  have HKS : Hid (kindS ⟨client, num, kind, keys, val, ctx, beg, fin, ovr, time, site, got, needs, ka, kc, xa, xc, ga, gc, na, nc⟩ = ((!decide (kind = 1) || decide ((got.length : Int) + (needs.length : Int) ≤ 0)) && ((!decide (kind = 2) || (decide (val ≤ 0) && (decide (time = 0) && decide (site = 0)))) && (fitsB time site && decide (got.length ≤ keys.length))))) := rfl
  have K1 := Lib.hid k1
  have K2 := Lib.hid k2
  clear k1 k2 hkind
  by_cases hgn : (got.length : Int) + (needs.length : Int) ≤ 0
  rotate_left
  · skip
    have hks : kindS ⟨client, num, kind, keys, val, ctx, beg, fin, ovr, time, site, got, needs, ka, kc, xa, xc, ga, gc, na, nc⟩ = false := by rw [HKS.out, K1.out, K2.out, decide_eq_false hgn]; rfl
    have HB : Hid (callOkS ⟨client, num, kind, keys, val, ctx, beg, fin, ovr, time, site, got, needs, ka, kc, xa, xc, ga, gc, na, nc⟩ t = false) := by
      show (inB client 0 1 && (inB num 1 99 && (inB kind 1 2 && (keysS kind keys && (inB val 0 9999 && (depsOkB ctx && (depsOkB needs && (inB beg 1 t && (kindS ⟨client, num, kind, keys, val, ctx, beg, fin, ovr, time, site, got, needs, ka, kc, xa, xc, ga, gc, na, nc⟩ && (anFrom (qS keys) none (ps got) && ((decide (needs.length = 0) || decide (keys.length ≤ got.length)) && (needs.all (needS (ps got)) && finS ⟨client, num, kind, keys, val, ctx, beg, fin, ovr, time, site, got, needs, ka, kc, xa, xc, ga, gc, na, nc⟩ t)))))))))))) = _
      rw [h0, h1, h2, h3, h4, h5, h6, h7, hks]
      all_goals rfl
    clear hks
    have hgn' : (0 : Int) < (got.length : Int) + (needs.length : Int) := by omega
    clear hgn
    go_wp2_with (first | (go_at_call 54; refine (in_spec _ _ _ _).mono ?_; rintro e w' ⟨rfl, rfl⟩))
    go_ret
    exact ⟨by rw [HB.out]; rfl, G0⟩
  have hgn' : decide ((0 : Int) < (got.length : Int) + (needs.length : Int)) = false := decide_eq_false (by omega)
  have HGN := Lib.hid (decide_eq_true hgn)
  go_wp2_with (first | (go_at_call 54; refine (in_spec _ _ _ _).mono ?_; rintro e w' ⟨rfl, rfl⟩))
  refine (fits_spec time site _).mono ?_
  rintro e w8 ⟨rfl, hb8⟩
  have BV := BV.below hb8 BV.lt
  have G0 := below_after G0 hb8
  clear p0 p1 p2 p3 p4 p5 p6 p7 p8 p9 p10 p11 p12 pf pl
  obtain ⟨p0, p1, p2, p3, p4, p5, p6, p7, p8, p9, p10, p11, p12, pf, pl⟩ := BV.call
  rcases h8 : fitsB time site with _ | _
  · skip
    have hks : kindS ⟨client, num, kind, keys, val, ctx, beg, fin, ovr, time, site, got, needs, ka, kc, xa, xc, ga, gc, na, nc⟩ = false := by rw [HKS.out, K1.out, K2.out, HGN.out, h8]; rfl
    have HB : Hid (callOkS ⟨client, num, kind, keys, val, ctx, beg, fin, ovr, time, site, got, needs, ka, kc, xa, xc, ga, gc, na, nc⟩ t = false) := by
      show (inB client 0 1 && (inB num 1 99 && (inB kind 1 2 && (keysS kind keys && (inB val 0 9999 && (depsOkB ctx && (depsOkB needs && (inB beg 1 t && (kindS ⟨client, num, kind, keys, val, ctx, beg, fin, ovr, time, site, got, needs, ka, kc, xa, xc, ga, gc, na, nc⟩ && (anFrom (qS keys) none (ps got) && ((decide (needs.length = 0) || decide (keys.length ≤ got.length)) && (needs.all (needS (ps got)) && finS ⟨client, num, kind, keys, val, ctx, beg, fin, ovr, time, site, got, needs, ka, kc, xa, xc, ga, gc, na, nc⟩ t)))))))))))) = _
      rw [h0, h1, h2, h3, h4, h5, h6, h7, hks]
      all_goals rfl
    clear hks
    go_wp2_with (first | (go_at_call 54; refine (in_spec _ _ _ _).mono ?_; rintro e w' ⟨rfl, rfl⟩))
    go_ret
    exact ⟨by rw [HB.out]; rfl, G0⟩
  by_cases hgk : got.length ≤ keys.length
  rotate_left
  · skip
    exfalso
    omega
  have hks : kindS ⟨client, num, kind, keys, val, ctx, beg, fin, ovr, time, site, got, needs, ka, kc, xa, xc, ga, gc, na, nc⟩ = true := by rw [HKS.out, K1.out, K2.out, HGN.out, h8, decide_eq_true hgk]; rfl
  have hgk' : decide ((keys.length : Int) < (got.length : Int)) = false := decide_eq_false (by omega)
  have hgk2 : decide (keys.length < got.length) = false := decide_eq_false (by omega)
  clear hgk
  have HALL : Hid (∀ b, (inB client 0 1 && (inB num 1 99 && (inB kind 1 2 && (keysS kind keys && (inB val 0 9999 && (depsOkB ctx && (depsOkB needs && (inB beg 1 t && (kindS ⟨client, num, kind, keys, val, ctx, beg, fin, ovr, time, site, got, needs, ka, kc, xa, xc, ga, gc, na, nc⟩ && b))))))))) = b) := by intro b; rw [h0, h1, h2, h3, h4, h5, h6, h7, hks]; rfl
  clear h0 h1 h2 h3 h4 h5 h6 h7 hks
  have hg0 : got.length = 0 := by omega
  have hn0 : needs.length = 0 := by omega
  have hgn0 : got = [] := List.eq_nil_of_length_eq_zero hg0
  have hnn0 : needs = [] := List.eq_nil_of_length_eq_zero hn0
  have HEQ : Hid (callOkS ⟨client, num, kind, keys, val, ctx, beg, fin, ovr, time, site, got, needs, ka, kc, xa, xc, ga, gc, na, nc⟩ t = finS ⟨client, num, kind, keys, val, ctx, beg, fin, ovr, time, site, got, needs, ka, kc, xa, xc, ga, gc, na, nc⟩ t) := by
    show (inB client 0 1 && (inB num 1 99 && (inB kind 1 2 && (keysS kind keys && (inB val 0 9999 && (depsOkB ctx && (depsOkB needs && (inB beg 1 t && (kindS ⟨client, num, kind, keys, val, ctx, beg, fin, ovr, time, site, got, needs, ka, kc, xa, xc, ga, gc, na, nc⟩ && (anFrom (qS keys) none (ps got) && ((decide (needs.length = 0) || decide (keys.length ≤ got.length)) && (needs.all (needS (ps got)) && finS ⟨client, num, kind, keys, val, ctx, beg, fin, ovr, time, site, got, needs, ka, kc, xa, xc, ga, gc, na, nc⟩ t)))))))))))) = _
    rw [HALL.out, hgn0, hnn0]
    rfl
  clear hgn hgn' hgn0 hnn0
  have z1 : decide ((0 : Int) < (got.length : Int)) = false := decide_eq_false (by omega)
  have z2 : decide (0 < got.length) = false := decide_eq_false (by omega)
  have z3 : decide ((0 : Int) < (needs.length : Int)) = false := decide_eq_false (by omega)
  have z4 : decide (0 < needs.length) = false := decide_eq_false (by omega)
  have z5 : ((needs.length : Int) == 0) = true := by rw [beq_iff_eq]; omega
  have HN0 := Lib.hid hn0
  clear hg0 hn0
  go_wp2
  go_loopw [5] (fun i wr => i = .int .i64 0 ∧ Blk wr w.heap.size #[.int .i64 client, .int .i64 num, .int .i64 kind, .slice ka keys.length kc, .int .i64 val, .slice xa ctx.length xc, .int .i64 beg, .int .i64 fin, .bool ovr, .int .i64 time, .int .i64 site, .slice ga got.length gc, .slice na needs.length nc] 73 ∧ Below w.heap.size w wr) (fun _ _ => 0)
  case atStart => exact ⟨rfl, BV, G0⟩
  case round =>
    obtain ⟨rfl, BV, G0⟩ := hrel
    clear p0 p1 p2 p3 p4 p5 p6 p7 p8 p9 p10 p11 p12 pf pl
    obtain ⟨p0, p1, p2, p3, p4, p5, p6, p7, p8, p9, p10, p11, p12, pf, pl⟩ := BV.call
    go_wp2
    go_loopw [6] (fun i wr => i = .int .i64 0 ∧ Blk wr w.heap.size #[.int .i64 client, .int .i64 num, .int .i64 kind, .slice ka keys.length kc, .int .i64 val, .slice xa ctx.length xc, .int .i64 beg, .int .i64 fin, .bool ovr, .int .i64 time, .int .i64 site, .slice ga got.length gc, .slice na needs.length nc] 73 ∧ Below w.heap.size w wr) (fun _ _ => 0)
    case atStart => exact ⟨rfl, BV, G0⟩
    case round =>
      obtain ⟨rfl, BV, G0⟩ := hrel
      clear p0 p1 p2 p3 p4 p5 p6 p7 p8 p9 p10 p11 p12 pf pl
      obtain ⟨p0, p1, p2, p3, p4, p5, p6, p7, p8, p9, p10, p11, p12, pf, pl⟩ := BV.call
      by_cases hf0 : fin = 0
      · skip
        have hf0' : (fin == 0) = true := by simpa using hf0
        by_cases ht0 : time = 0
        rotate_left
        · skip
          have ht0' : (time == 0) = false := by simpa using ht0
          have hfv : finS ⟨client, num, kind, keys, val, ctx, beg, fin, ovr, time, site, got, needs, ka, kc, xa, xc, ga, gc, na, nc⟩ t = false := by show (if fin = 0 then (decide (time = 0) && decide (site = 0)) else _) = _; rw [if_pos hf0, decide_eq_false ht0]; rfl
          have HB : Hid (callOkS ⟨client, num, kind, keys, val, ctx, beg, fin, ovr, time, site, got, needs, ka, kc, xa, xc, ga, gc, na, nc⟩ t = false) := HEQ.out.trans hfv
          clear hfv hf0 ht0
          go_wp2
          go_ret
          exact ⟨by rw [HB.out]; rfl, G0⟩
        have ht0' : (time == 0) = true := by simpa using ht0
        by_cases hs0 : site = 0
        rotate_left
        · skip
          have hs0' : (site == 0) = false := by simpa using hs0
          have hfv : finS ⟨client, num, kind, keys, val, ctx, beg, fin, ovr, time, site, got, needs, ka, kc, xa, xc, ga, gc, na, nc⟩ t = false := by show (if fin = 0 then (decide (time = 0) && decide (site = 0)) else _) = _; rw [if_pos hf0, decide_eq_false hs0, Bool.and_false]
          have HB : Hid (callOkS ⟨client, num, kind, keys, val, ctx, beg, fin, ovr, time, site, got, needs, ka, kc, xa, xc, ga, gc, na, nc⟩ t = false) := HEQ.out.trans hfv
          clear hfv hf0 ht0 hs0
          go_wp2
          go_ret
          exact ⟨by rw [HB.out]; rfl, G0⟩
        have hs0' : (site == 0) = true := by simpa using hs0
        have hfv : finS ⟨client, num, kind, keys, val, ctx, beg, fin, ovr, time, site, got, needs, ka, kc, xa, xc, ga, gc, na, nc⟩ t = true := by show (if fin = 0 then (decide (time = 0) && decide (site = 0)) else _) = _; rw [if_pos hf0, decide_eq_true ht0, decide_eq_true hs0]; rfl
        have HB : Hid (callOkS ⟨client, num, kind, keys, val, ctx, beg, fin, ovr, time, site, got, needs, ka, kc, xa, xc, ga, gc, na, nc⟩ t = true) := HEQ.out.trans hfv
        clear hfv hf0 ht0 hs0
        go_wp2
        go_ret
        exact ⟨by rw [HB.out]; rfl, G0⟩
      have hf0' : (fin == 0) = false := by simpa using hf0
      have hfin : finS ⟨client, num, kind, keys, val, ctx, beg, fin, ovr, time, site, got, needs, ka, kc, xa, xc, ga, gc, na, nc⟩ t = (!ovr && (inB fin (nextI beg) t && (decide (needs.length = 0) && ((decide (kind = 1) && stampOkB time site) || (decide (kind = 2) && decide (got.length = keys.length)))))) := by show (if fin = 0 then _ else _) = _; rw [if_neg hf0]
      rw [K1.out, K2.out] at hfin
      clear hf0
      rcases Bool.eq_false_or_eq_true ovr with hov | hov
      · skip
        have hfv : finS ⟨client, num, kind, keys, val, ctx, beg, fin, ovr, time, site, got, needs, ka, kc, xa, xc, ga, gc, na, nc⟩ t = false := by rw [hfin, hov]; rfl
        have HB : Hid (callOkS ⟨client, num, kind, keys, val, ctx, beg, fin, ovr, time, site, got, needs, ka, kc, xa, xc, ga, gc, na, nc⟩ t = false) := HEQ.out.trans hfv
        clear hfv hfin
        go_wp2_with (first | (go_at_call 54; refine (in_spec _ _ _ _).mono ?_; rintro e w' ⟨rfl, rfl⟩))
        go_ret
        exact ⟨by rw [HB.out]; rfl, G0⟩
      have hni : inB fin (wrap64 (beg + 1)) t = inB fin (nextI beg) t := by rw [nextI, show IntKind.i64.wrap (beg + 1) = wrap64 (beg + 1) from by rw [IntKind.wrap_i64]; unfold wrap64; omega]
      rcases hfi : inB fin (nextI beg) t with _ | _
      · skip
        have hfv : finS ⟨client, num, kind, keys, val, ctx, beg, fin, ovr, time, site, got, needs, ka, kc, xa, xc, ga, gc, na, nc⟩ t = false := by rw [hfin, hov, hfi]; rfl
        have HB : Hid (callOkS ⟨client, num, kind, keys, val, ctx, beg, fin, ovr, time, site, got, needs, ka, kc, xa, xc, ga, gc, na, nc⟩ t = false) := HEQ.out.trans hfv
        clear hfv hfin
        rw [hfi] at hni
        go_wp2_with (first | (go_at_call 54; refine (in_spec _ _ _ _).mono ?_; rintro e w' ⟨rfl, rfl⟩))
        go_ret
        exact ⟨by rw [HB.out]; rfl, G0⟩
      rw [hfi] at hni
      have hfin : finS ⟨client, num, kind, keys, val, ctx, beg, fin, ovr, time, site, got, needs, ka, kc, xa, xc, ga, gc, na, nc⟩ t = stampOkB time site := by rw [hfin, hov, hfi, decide_eq_true HN0.out]; simp
      rcases hst : stampOkB time site with _ | _
      · skip
        have hfv : finS ⟨client, num, kind, keys, val, ctx, beg, fin, ovr, time, site, got, needs, ka, kc, xa, xc, ga, gc, na, nc⟩ t = false := hfin.trans hst
        have HB : Hid (callOkS ⟨client, num, kind, keys, val, ctx, beg, fin, ovr, time, site, got, needs, ka, kc, xa, xc, ga, gc, na, nc⟩ t = false) := HEQ.out.trans hfv
        have HST := Lib.hid hst
        clear hfv hfin hst
        go_wp2_with (first | (go_at_call 54; refine (in_spec _ _ _ _).mono ?_; rintro e w' ⟨rfl, rfl⟩))
        refine (bool_is HST.out (stampOk_spec time site _)).mono ?_
        rintro e w21 ⟨rfl, hb21⟩
        have G0 := below_after G0 hb21
        have BV := BV.below hb21 BV.lt
        clear p0 p1 p2 p3 p4 p5 p6 p7 p8 p9 p10 p11 p12 pf pl
        obtain ⟨p0, p1, p2, p3, p4, p5, p6, p7, p8, p9, p10, p11, p12, pf, pl⟩ := BV.call
        go_wp2
        go_ret
        exact ⟨by rw [HB.out]; rfl, G0⟩
      · skip
        have hfv : finS ⟨client, num, kind, keys, val, ctx, beg, fin, ovr, time, site, got, needs, ka, kc, xa, xc, ga, gc, na, nc⟩ t = true := hfin.trans hst
        have HB : Hid (callOkS ⟨client, num, kind, keys, val, ctx, beg, fin, ovr, time, site, got, needs, ka, kc, xa, xc, ga, gc, na, nc⟩ t = true) := HEQ.out.trans hfv
        have HST := Lib.hid hst
        clear hfv hfin hst
        go_wp2_with (first | (go_at_call 54; refine (in_spec _ _ _ _).mono ?_; rintro e w' ⟨rfl, rfl⟩))
        refine (bool_is HST.out (stampOk_spec time site _)).mono ?_
        rintro e w21 ⟨rfl, hb21⟩
        have G0 := below_after G0 hb21
        have BV := BV.below hb21 BV.lt
        clear p0 p1 p2 p3 p4 p5 p6 p7 p8 p9 p10 p11 p12 pf pl
        obtain ⟨p0, p1, p2, p3, p4, p5, p6, p7, p8, p9, p10, p11, p12, pf, pl⟩ := BV.call
        go_wp2
        go_ret
        exact ⟨by rw [HB.out]; rfl, G0⟩
end Go.Proofs.Ythciikogogkfcaa
