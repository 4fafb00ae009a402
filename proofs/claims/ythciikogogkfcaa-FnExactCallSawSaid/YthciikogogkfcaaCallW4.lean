/- A call's validity: the program's function. -/
import Derived.Test.YthciikogogkfcaaCallW3
import Derived.Test.YthciikogogkfcaaWordW
namespace Go.Proofs.Ythciikogogkfcaa
open Go.RowKit Go.Deep
set_option linter.unusedVariables false

theorem gotOk_impl (x : Mc) (w : World) (hin : CallIn w x) (hf : FewC x) :
    Calls Try.prog 96 #[.agg #[.int .i64 x.client, .int .i64 x.num, .int .i64 x.kind, .slice x.ka x.keys.length x.kc, .int .i64 x.val, .slice x.xa x.ctx.length x.xc, .int .i64 x.beg, .int .i64 x.fin, .bool x.over, .int .i64 x.time, .int .i64 x.site, .slice x.ga x.got.length x.gc, .slice x.na x.needs.length x.nc]] w (Says (gotOkB x.keys (ps x.got) x.needs) w) := by
  obtain ⟨client, num, kind, keys, val, ctx, beg, fin, ovr, time, site, got, needs, ka, kc, xa, xc, ga, gc, na, nc⟩ := x
  exact gotOk_impl0 client num kind keys val ctx beg fin ovr time site got needs ka kc xa xc ga gc na nc w hin hf

set_option maxRecDepth 100000 in
set_option maxHeartbeats 16000000 in
theorem CallOk_impl0 (client : Int) (num : Int) (kind : Int) (keys : List Int) (val : Int) (ctx : List Dp) (beg : Int) (fin : Int) (ovr : Bool) (time : Int) (site : Int) (got : List An) (needs : List Dp) (ka : Option Addr) (kc : Nat) (xa : Option Addr) (xc : Nat) (ga : Option Addr) (gc : Nat) (na : Option Addr) (nc : Nat) (t : Int) (w : World) (hin : CallIn w ⟨client, num, kind, keys, val, ctx, beg, fin, ovr, time, site, got, needs, ka, kc, xa, xc, ga, gc, na, nc⟩) (hf : FewC ⟨client, num, kind, keys, val, ctx, beg, fin, ovr, time, site, got, needs, ka, kc, xa, xc, ga, gc, na, nc⟩) :
    Calls Try.prog 37 #[.agg #[.int .i64 client, .int .i64 num, .int .i64 kind, .slice ka keys.length kc, .int .i64 val, .slice xa ctx.length xc, .int .i64 beg, .int .i64 fin, .bool ovr, .int .i64 time, .int .i64 site, .slice ga got.length gc, .slice na needs.length nc], .int .i64 t] w (Says (callOkB ⟨client, num, kind, keys, val, ctx, beg, fin, ovr, time, site, got, needs, ka, kc, xa, xc, ga, gc, na, nc⟩ t) w) := by
  have BV := Blk.new w #[.int .i64 client, .int .i64 num, .int .i64 kind, .slice ka keys.length kc, .int .i64 val, .slice xa ctx.length xc, .int .i64 beg, .int .i64 fin, .bool ovr, .int .i64 time, .int .i64 site, .slice ga got.length gc, .slice na needs.length nc] 73
  have G0 := below_box w (.cells #[.int .i64 client, .int .i64 num, .int .i64 kind, .slice ka keys.length kc, .int .i64 val, .slice xa ctx.length xc, .int .i64 beg, .int .i64 fin, .bool ovr, .int .i64 time, .int .i64 site, .slice ga got.length gc, .slice na needs.length nc] 73)
  have hl1 : keys.length ≤ 1048577 := hf.ks
  have hl2 : got.length ≤ 1048577 := hf.gt.1
  have hl3 : needs.length ≤ 1048577 := hf.nd
  have hl4 : ctx.length ≤ 1048577 := hf.cx
  obtain ⟨p0, p1, p2, p3, p4, p5, p6, p7, p8, p9, p10, p11, p12, pf, pl⟩ := BV.call
  go_enter Try.func37, Try.ntmps37
  try simp only [List.append_eq, List.cons_append, List.nil_append]
  rcases h0 : inB client 0 1 with _ | _
  · skip
    have HB : Hid (callOkB ⟨client, num, kind, keys, val, ctx, beg, fin, ovr, time, site, got, needs, ka, kc, xa, xc, ga, gc, na, nc⟩ t = false) := by
      show (inB client 0 1 && (inB num 1 99 && (keysB kind keys && (inB val 0 9999 && (depsOkB ctx && (depsOkB needs && (inB beg 1 t && (fitsB time site && (gotOkB keys (ps got) needs && (kindB ⟨client, num, kind, keys, val, ctx, beg, fin, ovr, time, site, got, needs, ka, kc, xa, xc, ga, gc, na, nc⟩ && finB ⟨client, num, kind, keys, val, ctx, beg, fin, ovr, time, site, got, needs, ka, kc, xa, xc, ga, gc, na, nc⟩ t)))))))))) = _
      rw [h0]
      all_goals rfl
    go_wp2_with (first | (go_at_call 49; refine (in_impl _ _ _ _).mono ?_; rintro e w' ⟨rfl, rfl⟩) | (go_at_call 50; refine (isClient_impl _ _).mono ?_; rintro e w' ⟨rfl, rfl⟩))
    go_ret
    exact ⟨by rw [HB.out]; rfl, G0⟩
  rcases h1 : inB num 1 99 with _ | _
  · skip
    have HB : Hid (callOkB ⟨client, num, kind, keys, val, ctx, beg, fin, ovr, time, site, got, needs, ka, kc, xa, xc, ga, gc, na, nc⟩ t = false) := by
      show (inB client 0 1 && (inB num 1 99 && (keysB kind keys && (inB val 0 9999 && (depsOkB ctx && (depsOkB needs && (inB beg 1 t && (fitsB time site && (gotOkB keys (ps got) needs && (kindB ⟨client, num, kind, keys, val, ctx, beg, fin, ovr, time, site, got, needs, ka, kc, xa, xc, ga, gc, na, nc⟩ && finB ⟨client, num, kind, keys, val, ctx, beg, fin, ovr, time, site, got, needs, ka, kc, xa, xc, ga, gc, na, nc⟩ t)))))))))) = _
      rw [h0, h1]
      all_goals rfl
    go_wp2_with (first | (go_at_call 49; refine (in_impl _ _ _ _).mono ?_; rintro e w' ⟨rfl, rfl⟩) | (go_at_call 50; refine (isClient_impl _ _).mono ?_; rintro e w' ⟨rfl, rfl⟩))
    go_ret
    exact ⟨by rw [HB.out]; rfl, G0⟩
  go_wp2_with (first | (go_at_call 49; refine (in_impl _ _ _ _).mono ?_; rintro e w' ⟨rfl, rfl⟩) | (go_at_call 50; refine (isClient_impl _ _).mono ?_; rintro e w' ⟨rfl, rfl⟩))
  refine (keysOk_impl ⟨client, num, kind, keys, val, ctx, beg, fin, ovr, time, site, got, needs, ka, kc, xa, xc, ga, gc, na, nc⟩ ka _ (hin.ks.below G0) hl1).mono ?_
  rintro e w2 ⟨rfl, hb2⟩
  have BV := BV.below hb2 BV.lt
  have G0 := below_after G0 hb2
  clear p0 p1 p2 p3 p4 p5 p6 p7 p8 p9 p10 p11 p12 pf pl
  obtain ⟨p0, p1, p2, p3, p4, p5, p6, p7, p8, p9, p10, p11, p12, pf, pl⟩ := BV.call
  rcases h2 : keysB kind keys with _ | _
  · skip
    have HB : Hid (callOkB ⟨client, num, kind, keys, val, ctx, beg, fin, ovr, time, site, got, needs, ka, kc, xa, xc, ga, gc, na, nc⟩ t = false) := by
      show (inB client 0 1 && (inB num 1 99 && (keysB kind keys && (inB val 0 9999 && (depsOkB ctx && (depsOkB needs && (inB beg 1 t && (fitsB time site && (gotOkB keys (ps got) needs && (kindB ⟨client, num, kind, keys, val, ctx, beg, fin, ovr, time, site, got, needs, ka, kc, xa, xc, ga, gc, na, nc⟩ && finB ⟨client, num, kind, keys, val, ctx, beg, fin, ovr, time, site, got, needs, ka, kc, xa, xc, ga, gc, na, nc⟩ t)))))))))) = _
      rw [h0, h1, h2]
      all_goals rfl
    go_wp2_with (first | (go_at_call 49; refine (in_impl _ _ _ _).mono ?_; rintro e w' ⟨rfl, rfl⟩) | (go_at_call 50; refine (isClient_impl _ _).mono ?_; rintro e w' ⟨rfl, rfl⟩))
    go_ret
    exact ⟨by rw [HB.out]; rfl, G0⟩
  rcases h3 : inB val 0 9999 with _ | _
  · skip
    have HB : Hid (callOkB ⟨client, num, kind, keys, val, ctx, beg, fin, ovr, time, site, got, needs, ka, kc, xa, xc, ga, gc, na, nc⟩ t = false) := by
      show (inB client 0 1 && (inB num 1 99 && (keysB kind keys && (inB val 0 9999 && (depsOkB ctx && (depsOkB needs && (inB beg 1 t && (fitsB time site && (gotOkB keys (ps got) needs && (kindB ⟨client, num, kind, keys, val, ctx, beg, fin, ovr, time, site, got, needs, ka, kc, xa, xc, ga, gc, na, nc⟩ && finB ⟨client, num, kind, keys, val, ctx, beg, fin, ovr, time, site, got, needs, ka, kc, xa, xc, ga, gc, na, nc⟩ t)))))))))) = _
      rw [h0, h1, h2, h3]
      all_goals rfl
    go_wp2_with (first | (go_at_call 49; refine (in_impl _ _ _ _).mono ?_; rintro e w' ⟨rfl, rfl⟩) | (go_at_call 50; refine (isClient_impl _ _).mono ?_; rintro e w' ⟨rfl, rfl⟩))
    go_ret
    exact ⟨by rw [HB.out]; rfl, G0⟩
  go_wp2_with (first | (go_at_call 49; refine (in_impl _ _ _ _).mono ?_; rintro e w' ⟨rfl, rfl⟩) | (go_at_call 50; refine (isClient_impl _ _).mono ?_; rintro e w' ⟨rfl, rfl⟩))
  refine (depsOk_impl ctx xa xc _ (hin.cx.below G0) hl4).mono ?_
  rintro e w4 ⟨rfl, hb4⟩
  have BV := BV.below hb4 BV.lt
  have G0 := below_after G0 hb4
  clear p0 p1 p2 p3 p4 p5 p6 p7 p8 p9 p10 p11 p12 pf pl
  obtain ⟨p0, p1, p2, p3, p4, p5, p6, p7, p8, p9, p10, p11, p12, pf, pl⟩ := BV.call
  rcases h4 : depsOkB ctx with _ | _
  · skip
    have HB : Hid (callOkB ⟨client, num, kind, keys, val, ctx, beg, fin, ovr, time, site, got, needs, ka, kc, xa, xc, ga, gc, na, nc⟩ t = false) := by
      show (inB client 0 1 && (inB num 1 99 && (keysB kind keys && (inB val 0 9999 && (depsOkB ctx && (depsOkB needs && (inB beg 1 t && (fitsB time site && (gotOkB keys (ps got) needs && (kindB ⟨client, num, kind, keys, val, ctx, beg, fin, ovr, time, site, got, needs, ka, kc, xa, xc, ga, gc, na, nc⟩ && finB ⟨client, num, kind, keys, val, ctx, beg, fin, ovr, time, site, got, needs, ka, kc, xa, xc, ga, gc, na, nc⟩ t)))))))))) = _
      rw [h0, h1, h2, h3, h4]
      all_goals rfl
    go_wp2_with (first | (go_at_call 49; refine (in_impl _ _ _ _).mono ?_; rintro e w' ⟨rfl, rfl⟩) | (go_at_call 50; refine (isClient_impl _ _).mono ?_; rintro e w' ⟨rfl, rfl⟩))
    go_ret
    exact ⟨by rw [HB.out]; rfl, G0⟩
  go_wp2_with (first | (go_at_call 49; refine (in_impl _ _ _ _).mono ?_; rintro e w' ⟨rfl, rfl⟩) | (go_at_call 50; refine (isClient_impl _ _).mono ?_; rintro e w' ⟨rfl, rfl⟩))
  refine (depsOk_impl needs na nc _ (hin.nd.below G0) hl3).mono ?_
  rintro e w5 ⟨rfl, hb5⟩
  have BV := BV.below hb5 BV.lt
  have G0 := below_after G0 hb5
  clear p0 p1 p2 p3 p4 p5 p6 p7 p8 p9 p10 p11 p12 pf pl
  obtain ⟨p0, p1, p2, p3, p4, p5, p6, p7, p8, p9, p10, p11, p12, pf, pl⟩ := BV.call
  rcases h5 : depsOkB needs with _ | _
  · skip
    have HB : Hid (callOkB ⟨client, num, kind, keys, val, ctx, beg, fin, ovr, time, site, got, needs, ka, kc, xa, xc, ga, gc, na, nc⟩ t = false) := by
      show (inB client 0 1 && (inB num 1 99 && (keysB kind keys && (inB val 0 9999 && (depsOkB ctx && (depsOkB needs && (inB beg 1 t && (fitsB time site && (gotOkB keys (ps got) needs && (kindB ⟨client, num, kind, keys, val, ctx, beg, fin, ovr, time, site, got, needs, ka, kc, xa, xc, ga, gc, na, nc⟩ && finB ⟨client, num, kind, keys, val, ctx, beg, fin, ovr, time, site, got, needs, ka, kc, xa, xc, ga, gc, na, nc⟩ t)))))))))) = _
      rw [h0, h1, h2, h3, h4, h5]
      all_goals rfl
    go_wp2_with (first | (go_at_call 49; refine (in_impl _ _ _ _).mono ?_; rintro e w' ⟨rfl, rfl⟩) | (go_at_call 50; refine (isClient_impl _ _).mono ?_; rintro e w' ⟨rfl, rfl⟩))
    go_ret
    exact ⟨by rw [HB.out]; rfl, G0⟩
  rcases h6 : inB beg 1 t with _ | _
  · skip
    have HB : Hid (callOkB ⟨client, num, kind, keys, val, ctx, beg, fin, ovr, time, site, got, needs, ka, kc, xa, xc, ga, gc, na, nc⟩ t = false) := by
      show (inB client 0 1 && (inB num 1 99 && (keysB kind keys && (inB val 0 9999 && (depsOkB ctx && (depsOkB needs && (inB beg 1 t && (fitsB time site && (gotOkB keys (ps got) needs && (kindB ⟨client, num, kind, keys, val, ctx, beg, fin, ovr, time, site, got, needs, ka, kc, xa, xc, ga, gc, na, nc⟩ && finB ⟨client, num, kind, keys, val, ctx, beg, fin, ovr, time, site, got, needs, ka, kc, xa, xc, ga, gc, na, nc⟩ t)))))))))) = _
      rw [h0, h1, h2, h3, h4, h5, h6]
      all_goals rfl
    go_wp2_with (first | (go_at_call 49; refine (in_impl _ _ _ _).mono ?_; rintro e w' ⟨rfl, rfl⟩) | (go_at_call 50; refine (isClient_impl _ _).mono ?_; rintro e w' ⟨rfl, rfl⟩))
    go_ret
    exact ⟨by rw [HB.out]; rfl, G0⟩
  go_wp2_with (first | (go_at_call 49; refine (in_impl _ _ _ _).mono ?_; rintro e w' ⟨rfl, rfl⟩) | (go_at_call 50; refine (isClient_impl _ _).mono ?_; rintro e w' ⟨rfl, rfl⟩))
  refine (fits_impl time site _).mono ?_
  rintro e w7 ⟨rfl, hb7⟩
  have BV := BV.below hb7 BV.lt
  have G0 := below_after G0 hb7
  clear p0 p1 p2 p3 p4 p5 p6 p7 p8 p9 p10 p11 p12 pf pl
  obtain ⟨p0, p1, p2, p3, p4, p5, p6, p7, p8, p9, p10, p11, p12, pf, pl⟩ := BV.call
  rcases h7 : fitsB time site with _ | _
  · skip
    have HB : Hid (callOkB ⟨client, num, kind, keys, val, ctx, beg, fin, ovr, time, site, got, needs, ka, kc, xa, xc, ga, gc, na, nc⟩ t = false) := by
      show (inB client 0 1 && (inB num 1 99 && (keysB kind keys && (inB val 0 9999 && (depsOkB ctx && (depsOkB needs && (inB beg 1 t && (fitsB time site && (gotOkB keys (ps got) needs && (kindB ⟨client, num, kind, keys, val, ctx, beg, fin, ovr, time, site, got, needs, ka, kc, xa, xc, ga, gc, na, nc⟩ && finB ⟨client, num, kind, keys, val, ctx, beg, fin, ovr, time, site, got, needs, ka, kc, xa, xc, ga, gc, na, nc⟩ t)))))))))) = _
      rw [h0, h1, h2, h3, h4, h5, h6, h7]
      all_goals rfl
    go_wp2_with (first | (go_at_call 49; refine (in_impl _ _ _ _).mono ?_; rintro e w' ⟨rfl, rfl⟩) | (go_at_call 50; refine (isClient_impl _ _).mono ?_; rintro e w' ⟨rfl, rfl⟩))
    go_ret
    exact ⟨by rw [HB.out]; rfl, G0⟩
  go_wp2_with (first | (go_at_call 49; refine (in_impl _ _ _ _).mono ?_; rintro e w' ⟨rfl, rfl⟩) | (go_at_call 50; refine (isClient_impl _ _).mono ?_; rintro e w' ⟨rfl, rfl⟩))
  refine (gotOk_impl ⟨client, num, kind, keys, val, ctx, beg, fin, ovr, time, site, got, needs, ka, kc, xa, xc, ga, gc, na, nc⟩ _ (hin.below G0) hf).mono ?_
  rintro e w8 ⟨rfl, hb8⟩
  have BV := BV.below hb8 BV.lt
  have G0 := below_after G0 hb8
  clear p0 p1 p2 p3 p4 p5 p6 p7 p8 p9 p10 p11 p12 pf pl
  obtain ⟨p0, p1, p2, p3, p4, p5, p6, p7, p8, p9, p10, p11, p12, pf, pl⟩ := BV.call
  rcases h8 : gotOkB keys (ps got) needs with _ | _
  · skip
    have HB : Hid (callOkB ⟨client, num, kind, keys, val, ctx, beg, fin, ovr, time, site, got, needs, ka, kc, xa, xc, ga, gc, na, nc⟩ t = false) := by
      show (inB client 0 1 && (inB num 1 99 && (keysB kind keys && (inB val 0 9999 && (depsOkB ctx && (depsOkB needs && (inB beg 1 t && (fitsB time site && (gotOkB keys (ps got) needs && (kindB ⟨client, num, kind, keys, val, ctx, beg, fin, ovr, time, site, got, needs, ka, kc, xa, xc, ga, gc, na, nc⟩ && finB ⟨client, num, kind, keys, val, ctx, beg, fin, ovr, time, site, got, needs, ka, kc, xa, xc, ga, gc, na, nc⟩ t)))))))))) = _
      rw [h0, h1, h2, h3, h4, h5, h6, h7, h8]
      all_goals rfl
    go_wp2_with (first | (go_at_call 49; refine (in_impl _ _ _ _).mono ?_; rintro e w' ⟨rfl, rfl⟩) | (go_at_call 50; refine (isClient_impl _ _).mono ?_; rintro e w' ⟨rfl, rfl⟩))
    go_ret
    exact ⟨by rw [HB.out]; rfl, G0⟩
  have hcat : IntKind.i64.wrap ((got.length : Int) + (needs.length : Int)) = (got.length : Int) + (needs.length : Int) := by rw [IntKind.wrap_i64]; omega
  by_cases h1k : kind = 1
  · skip
    have h1k' : (kind == 1) = true := by simpa using h1k
    have hkb : kindB ⟨client, num, kind, keys, val, ctx, beg, fin, ovr, time, site, got, needs, ka, kc, xa, xc, ga, gc, na, nc⟩ = decide ((got.length : Int) + (needs.length : Int) ≤ 0) := by show (if kind = 1 then _ else _) = _; rw [if_pos h1k]
    by_cases hgn : (got.length : Int) + (needs.length : Int) ≤ 0
    rotate_left
    · skip
      rw [decide_eq_false hgn] at hkb
      have hgn' : (0 : Int) < (got.length : Int) + (needs.length : Int) := by omega
      have HB : Hid (callOkB ⟨client, num, kind, keys, val, ctx, beg, fin, ovr, time, site, got, needs, ka, kc, xa, xc, ga, gc, na, nc⟩ t = false) := by
        show (inB client 0 1 && (inB num 1 99 && (keysB kind keys && (inB val 0 9999 && (depsOkB ctx && (depsOkB needs && (inB beg 1 t && (fitsB time site && (gotOkB keys (ps got) needs && (kindB ⟨client, num, kind, keys, val, ctx, beg, fin, ovr, time, site, got, needs, ka, kc, xa, xc, ga, gc, na, nc⟩ && finB ⟨client, num, kind, keys, val, ctx, beg, fin, ovr, time, site, got, needs, ka, kc, xa, xc, ga, gc, na, nc⟩ t)))))))))) = _
        rw [h0, h1, h2, h3, h4, h5, h6, h7, h8, hkb]
        all_goals rfl
      clear hkb hgn h1k
      go_wp2_with (first | (go_at_call 49; refine (in_impl _ _ _ _).mono ?_; rintro e w' ⟨rfl, rfl⟩) | (go_at_call 50; refine (isClient_impl _ _).mono ?_; rintro e w' ⟨rfl, rfl⟩))
      go_ret
      exact ⟨by rw [HB.out]; rfl, G0⟩
    have hgn' : decide ((0 : Int) < (got.length : Int) + (needs.length : Int)) = false := decide_eq_false (by omega)
    rw [decide_eq_true hgn] at hkb
    by_cases hf0 : fin = 0
    · skip
      have hf0' : (fin == 0) = true := by simpa using hf0
      rcases hn2 : (decide (time = 0) && decide (site = 0)) with _ | _
      · skip
        have hfb : finB ⟨client, num, kind, keys, val, ctx, beg, fin, ovr, time, site, got, needs, ka, kc, xa, xc, ga, gc, na, nc⟩ t = false := by show (if fin = 0 then (decide (time = 0) && decide (site = 0)) else _) = _; rw [if_pos hf0]; exact hn2
        have HB : Hid (callOkB ⟨client, num, kind, keys, val, ctx, beg, fin, ovr, time, site, got, needs, ka, kc, xa, xc, ga, gc, na, nc⟩ t = false) := by
          show (inB client 0 1 && (inB num 1 99 && (keysB kind keys && (inB val 0 9999 && (depsOkB ctx && (depsOkB needs && (inB beg 1 t && (fitsB time site && (gotOkB keys (ps got) needs && (kindB ⟨client, num, kind, keys, val, ctx, beg, fin, ovr, time, site, got, needs, ka, kc, xa, xc, ga, gc, na, nc⟩ && finB ⟨client, num, kind, keys, val, ctx, beg, fin, ovr, time, site, got, needs, ka, kc, xa, xc, ga, gc, na, nc⟩ t)))))))))) = _
          rw [h0, h1, h2, h3, h4, h5, h6, h7, h8, hkb, hfb]
          all_goals rfl
        have HN2 := Lib.hid hn2
        clear hfb hn2 hf0
        go_wp2_with (first | (go_at_call 49; refine (in_impl _ _ _ _).mono ?_; rintro e w' ⟨rfl, rfl⟩) | (go_at_call 50; refine (isClient_impl _ _).mono ?_; rintro e w' ⟨rfl, rfl⟩))
        refine (bool_is HN2.out (none_impl time site _)).mono ?_
        rintro e w20 ⟨rfl, hb20⟩
        have BV := BV.below hb20 BV.lt
        have G0 := below_after G0 hb20
        clear p0 p1 p2 p3 p4 p5 p6 p7 p8 p9 p10 p11 p12 pf pl
        obtain ⟨p0, p1, p2, p3, p4, p5, p6, p7, p8, p9, p10, p11, p12, pf, pl⟩ := BV.call
        go_wp2
        go_ret
        exact ⟨by rw [HB.out]; rfl, G0⟩
      · skip
        have hfb : finB ⟨client, num, kind, keys, val, ctx, beg, fin, ovr, time, site, got, needs, ka, kc, xa, xc, ga, gc, na, nc⟩ t = true := by show (if fin = 0 then (decide (time = 0) && decide (site = 0)) else _) = _; rw [if_pos hf0]; exact hn2
        have HB : Hid (callOkB ⟨client, num, kind, keys, val, ctx, beg, fin, ovr, time, site, got, needs, ka, kc, xa, xc, ga, gc, na, nc⟩ t = true) := by
          show (inB client 0 1 && (inB num 1 99 && (keysB kind keys && (inB val 0 9999 && (depsOkB ctx && (depsOkB needs && (inB beg 1 t && (fitsB time site && (gotOkB keys (ps got) needs && (kindB ⟨client, num, kind, keys, val, ctx, beg, fin, ovr, time, site, got, needs, ka, kc, xa, xc, ga, gc, na, nc⟩ && finB ⟨client, num, kind, keys, val, ctx, beg, fin, ovr, time, site, got, needs, ka, kc, xa, xc, ga, gc, na, nc⟩ t)))))))))) = _
          rw [h0, h1, h2, h3, h4, h5, h6, h7, h8, hkb, hfb]
          all_goals rfl
        have HN2 := Lib.hid hn2
        clear hfb hn2 hf0
        go_wp2_with (first | (go_at_call 49; refine (in_impl _ _ _ _).mono ?_; rintro e w' ⟨rfl, rfl⟩) | (go_at_call 50; refine (isClient_impl _ _).mono ?_; rintro e w' ⟨rfl, rfl⟩))
        refine (bool_is HN2.out (none_impl time site _)).mono ?_
        rintro e w20 ⟨rfl, hb20⟩
        have BV := BV.below hb20 BV.lt
        have G0 := below_after G0 hb20
        clear p0 p1 p2 p3 p4 p5 p6 p7 p8 p9 p10 p11 p12 pf pl
        obtain ⟨p0, p1, p2, p3, p4, p5, p6, p7, p8, p9, p10, p11, p12, pf, pl⟩ := BV.call
        go_wp2
        go_ret
        exact ⟨by rw [HB.out]; rfl, G0⟩
    have hf0' : (fin == 0) = false := by simpa using hf0
    have hfin : finB ⟨client, num, kind, keys, val, ctx, beg, fin, ovr, time, site, got, needs, ka, kc, xa, xc, ga, gc, na, nc⟩ t = (!ovr && (inB fin (nextI beg) t && (decide (needs.length = 0) && !(decide (time = 0) && decide (site = 0))))) := by show (if fin = 0 then _ else (!ovr && (inB fin (nextI beg) t && (decide (needs.length = 0) && (if kind = 1 then !(decide (time = 0) && decide (site = 0)) else decide (got.length = keys.length)))))) = _; rw [if_neg hf0, if_pos h1k]
    clear hf0
    rcases Bool.eq_false_or_eq_true ovr with hov | hov
    · skip
      have hfv : finB ⟨client, num, kind, keys, val, ctx, beg, fin, ovr, time, site, got, needs, ka, kc, xa, xc, ga, gc, na, nc⟩ t = false := by rw [hfin, hov]; rfl
      have HB : Hid (callOkB ⟨client, num, kind, keys, val, ctx, beg, fin, ovr, time, site, got, needs, ka, kc, xa, xc, ga, gc, na, nc⟩ t = false) := by
        show (inB client 0 1 && (inB num 1 99 && (keysB kind keys && (inB val 0 9999 && (depsOkB ctx && (depsOkB needs && (inB beg 1 t && (fitsB time site && (gotOkB keys (ps got) needs && (kindB ⟨client, num, kind, keys, val, ctx, beg, fin, ovr, time, site, got, needs, ka, kc, xa, xc, ga, gc, na, nc⟩ && finB ⟨client, num, kind, keys, val, ctx, beg, fin, ovr, time, site, got, needs, ka, kc, xa, xc, ga, gc, na, nc⟩ t)))))))))) = _
        rw [h0, h1, h2, h3, h4, h5, h6, h7, h8, hkb, hfv]
        all_goals rfl
      clear hfv
      clear hfin
      go_wp2_with (first | (go_at_call 49; refine (in_impl _ _ _ _).mono ?_; rintro e w' ⟨rfl, rfl⟩) | (go_at_call 50; refine (isClient_impl _ _).mono ?_; rintro e w' ⟨rfl, rfl⟩))
      go_ret
      exact ⟨by rw [HB.out]; rfl, G0⟩
    have hni : inB fin (wrap64 (beg + 1)) t = inB fin (nextI beg) t := by rw [nextI, show IntKind.i64.wrap (beg + 1) = wrap64 (beg + 1) from by rw [IntKind.wrap_i64]; unfold wrap64; omega]
    rcases hfi : inB fin (nextI beg) t with _ | _
    · skip
      have hfv : finB ⟨client, num, kind, keys, val, ctx, beg, fin, ovr, time, site, got, needs, ka, kc, xa, xc, ga, gc, na, nc⟩ t = false := by rw [hfin, hov, hfi]; rfl
      have HB : Hid (callOkB ⟨client, num, kind, keys, val, ctx, beg, fin, ovr, time, site, got, needs, ka, kc, xa, xc, ga, gc, na, nc⟩ t = false) := by
        show (inB client 0 1 && (inB num 1 99 && (keysB kind keys && (inB val 0 9999 && (depsOkB ctx && (depsOkB needs && (inB beg 1 t && (fitsB time site && (gotOkB keys (ps got) needs && (kindB ⟨client, num, kind, keys, val, ctx, beg, fin, ovr, time, site, got, needs, ka, kc, xa, xc, ga, gc, na, nc⟩ && finB ⟨client, num, kind, keys, val, ctx, beg, fin, ovr, time, site, got, needs, ka, kc, xa, xc, ga, gc, na, nc⟩ t)))))))))) = _
        rw [h0, h1, h2, h3, h4, h5, h6, h7, h8, hkb, hfv]
        all_goals rfl
      clear hfv
      clear hfin
      rw [hfi] at hni
      go_wp2_with (first | (go_at_call 49; refine (in_impl _ _ _ _).mono ?_; rintro e w' ⟨rfl, rfl⟩) | (go_at_call 50; refine (isClient_impl _ _).mono ?_; rintro e w' ⟨rfl, rfl⟩))
      go_ret
      exact ⟨by rw [HB.out]; rfl, G0⟩
    rw [hfi] at hni
    by_cases hnl : needs.length = 0
    rotate_left
    · skip
      exfalso
      omega
    have hnd : decide (needs.length = 0) = true := decide_eq_true hnl
    have hnp : decide ((0 : Int) < (needs.length : Int)) = false := decide_eq_false (by omega)
    have hnq : decide (0 < needs.length) = false := decide_eq_false (by omega)
    rcases hn2 : (decide (time = 0) && decide (site = 0)) with _ | _
    · skip
      have hfv : finB ⟨client, num, kind, keys, val, ctx, beg, fin, ovr, time, site, got, needs, ka, kc, xa, xc, ga, gc, na, nc⟩ t = true := by rw [hfin, hov, hfi, hnd, hn2]; rfl
      have HB : Hid (callOkB ⟨client, num, kind, keys, val, ctx, beg, fin, ovr, time, site, got, needs, ka, kc, xa, xc, ga, gc, na, nc⟩ t = true) := by
        show (inB client 0 1 && (inB num 1 99 && (keysB kind keys && (inB val 0 9999 && (depsOkB ctx && (depsOkB needs && (inB beg 1 t && (fitsB time site && (gotOkB keys (ps got) needs && (kindB ⟨client, num, kind, keys, val, ctx, beg, fin, ovr, time, site, got, needs, ka, kc, xa, xc, ga, gc, na, nc⟩ && finB ⟨client, num, kind, keys, val, ctx, beg, fin, ovr, time, site, got, needs, ka, kc, xa, xc, ga, gc, na, nc⟩ t)))))))))) = _
        rw [h0, h1, h2, h3, h4, h5, h6, h7, h8, hkb, hfv]
        all_goals rfl
      clear hfv
      have HN2 := Lib.hid hn2
      clear hfin hnd hn2 hnl
      go_wp2_with (first | (go_at_call 49; refine (in_impl _ _ _ _).mono ?_; rintro e w' ⟨rfl, rfl⟩) | (go_at_call 50; refine (isClient_impl _ _).mono ?_; rintro e w' ⟨rfl, rfl⟩))
      refine (bool_is HN2.out (none_impl time site _)).mono ?_
      rintro e w21 ⟨rfl, hb21⟩
      have BV := BV.below hb21 BV.lt
      have G0 := below_after G0 hb21
      clear p0 p1 p2 p3 p4 p5 p6 p7 p8 p9 p10 p11 p12 pf pl
      obtain ⟨p0, p1, p2, p3, p4, p5, p6, p7, p8, p9, p10, p11, p12, pf, pl⟩ := BV.call
      go_wp2
      go_ret
      exact ⟨by rw [HB.out]; rfl, G0⟩
    · skip
      have hfv : finB ⟨client, num, kind, keys, val, ctx, beg, fin, ovr, time, site, got, needs, ka, kc, xa, xc, ga, gc, na, nc⟩ t = false := by rw [hfin, hov, hfi, hnd, hn2]; rfl
      have HB : Hid (callOkB ⟨client, num, kind, keys, val, ctx, beg, fin, ovr, time, site, got, needs, ka, kc, xa, xc, ga, gc, na, nc⟩ t = false) := by
        show (inB client 0 1 && (inB num 1 99 && (keysB kind keys && (inB val 0 9999 && (depsOkB ctx && (depsOkB needs && (inB beg 1 t && (fitsB time site && (gotOkB keys (ps got) needs && (kindB ⟨client, num, kind, keys, val, ctx, beg, fin, ovr, time, site, got, needs, ka, kc, xa, xc, ga, gc, na, nc⟩ && finB ⟨client, num, kind, keys, val, ctx, beg, fin, ovr, time, site, got, needs, ka, kc, xa, xc, ga, gc, na, nc⟩ t)))))))))) = _
        rw [h0, h1, h2, h3, h4, h5, h6, h7, h8, hkb, hfv]
        all_goals rfl
      clear hfv
      have HN2 := Lib.hid hn2
      clear hfin hnd hn2 hnl
      go_wp2_with (first | (go_at_call 49; refine (in_impl _ _ _ _).mono ?_; rintro e w' ⟨rfl, rfl⟩) | (go_at_call 50; refine (isClient_impl _ _).mono ?_; rintro e w' ⟨rfl, rfl⟩))
      refine (bool_is HN2.out (none_impl time site _)).mono ?_
      rintro e w21 ⟨rfl, hb21⟩
      have BV := BV.below hb21 BV.lt
      have G0 := below_after G0 hb21
      clear p0 p1 p2 p3 p4 p5 p6 p7 p8 p9 p10 p11 p12 pf pl
      obtain ⟨p0, p1, p2, p3, p4, p5, p6, p7, p8, p9, p10, p11, p12, pf, pl⟩ := BV.call
      go_wp2
      go_ret
      exact ⟨by rw [HB.out]; rfl, G0⟩
  have h1k' : (kind == 1) = false := by simpa using h1k
  have hkb : kindB ⟨client, num, kind, keys, val, ctx, beg, fin, ovr, time, site, got, needs, ka, kc, xa, xc, ga, gc, na, nc⟩ = (decide (val = 0) && (decide (time = 0) && decide (site = 0))) := by show (if kind = 1 then _ else (decide (val = 0) && (decide (time = 0) && decide (site = 0)))) = _; rw [if_neg h1k]
  by_cases hv0 : val = 0
  rotate_left
  · skip
    rw [decide_eq_false hv0, Bool.false_and] at hkb
    have hv0' : (val != 0) = true := by simpa using hv0
    have HB : Hid (callOkB ⟨client, num, kind, keys, val, ctx, beg, fin, ovr, time, site, got, needs, ka, kc, xa, xc, ga, gc, na, nc⟩ t = false) := by
      show (inB client 0 1 && (inB num 1 99 && (keysB kind keys && (inB val 0 9999 && (depsOkB ctx && (depsOkB needs && (inB beg 1 t && (fitsB time site && (gotOkB keys (ps got) needs && (kindB ⟨client, num, kind, keys, val, ctx, beg, fin, ovr, time, site, got, needs, ka, kc, xa, xc, ga, gc, na, nc⟩ && finB ⟨client, num, kind, keys, val, ctx, beg, fin, ovr, time, site, got, needs, ka, kc, xa, xc, ga, gc, na, nc⟩ t)))))))))) = _
      rw [h0, h1, h2, h3, h4, h5, h6, h7, h8, hkb]
      all_goals rfl
    clear hkb hv0 h1k
    go_wp2_with (first | (go_at_call 49; refine (in_impl _ _ _ _).mono ?_; rintro e w' ⟨rfl, rfl⟩) | (go_at_call 50; refine (isClient_impl _ _).mono ?_; rintro e w' ⟨rfl, rfl⟩))
    go_ret
    exact ⟨by rw [HB.out]; rfl, G0⟩
  rw [decide_eq_true hv0, Bool.true_and] at hkb
  have hv0' : (val != 0) = false := by simp [hv0]
  have hv0c := Lib.hid hv0
  clear hv0
  rcases hn : (decide (time = 0) && decide (site = 0)) with _ | _
  · skip
    rw [hn] at hkb
    have HB : Hid (callOkB ⟨client, num, kind, keys, val, ctx, beg, fin, ovr, time, site, got, needs, ka, kc, xa, xc, ga, gc, na, nc⟩ t = false) := by
      show (inB client 0 1 && (inB num 1 99 && (keysB kind keys && (inB val 0 9999 && (depsOkB ctx && (depsOkB needs && (inB beg 1 t && (fitsB time site && (gotOkB keys (ps got) needs && (kindB ⟨client, num, kind, keys, val, ctx, beg, fin, ovr, time, site, got, needs, ka, kc, xa, xc, ga, gc, na, nc⟩ && finB ⟨client, num, kind, keys, val, ctx, beg, fin, ovr, time, site, got, needs, ka, kc, xa, xc, ga, gc, na, nc⟩ t)))))))))) = _
      rw [h0, h1, h2, h3, h4, h5, h6, h7, h8, hkb]
      all_goals rfl
    have HN := Lib.hid hn
    clear hkb hn h1k
    go_wp2_with (first | (go_at_call 49; refine (in_impl _ _ _ _).mono ?_; rintro e w' ⟨rfl, rfl⟩) | (go_at_call 50; refine (isClient_impl _ _).mono ?_; rintro e w' ⟨rfl, rfl⟩))
    refine (bool_is HN.out (none_impl time site _)).mono ?_
    rintro e w19 ⟨rfl, hb19⟩
    have BV := BV.below hb19 BV.lt
    have G0 := below_after G0 hb19
    clear p0 p1 p2 p3 p4 p5 p6 p7 p8 p9 p10 p11 p12 pf pl
    obtain ⟨p0, p1, p2, p3, p4, p5, p6, p7, p8, p9, p10, p11, p12, pf, pl⟩ := BV.call
    go_wp2_with (first | (go_at_call 49; refine (in_impl _ _ _ _).mono ?_; rintro e w' ⟨rfl, rfl⟩) | (go_at_call 50; refine (isClient_impl _ _).mono ?_; rintro e w' ⟨rfl, rfl⟩))
    go_ret
    exact ⟨by rw [HB.out]; rfl, G0⟩
  rw [hn] at hkb
  have HN := Lib.hid hn
  clear hn
  go_wp2_with (first | (go_at_call 49; refine (in_impl _ _ _ _).mono ?_; rintro e w' ⟨rfl, rfl⟩) | (go_at_call 50; refine (isClient_impl _ _).mono ?_; rintro e w' ⟨rfl, rfl⟩))
  refine (bool_is HN.out (none_impl time site _)).mono ?_
  rintro e w19 ⟨rfl, hb19⟩
  have BV := BV.below hb19 BV.lt
  have G0 := below_after G0 hb19
  clear p0 p1 p2 p3 p4 p5 p6 p7 p8 p9 p10 p11 p12 pf pl
  obtain ⟨p0, p1, p2, p3, p4, p5, p6, p7, p8, p9, p10, p11, p12, pf, pl⟩ := BV.call
  by_cases hf0 : fin = 0
  · skip
    have hf0' : (fin == 0) = true := by simpa using hf0
    rcases hn2 : (decide (time = 0) && decide (site = 0)) with _ | _
    · skip
      have hfb : finB ⟨client, num, kind, keys, val, ctx, beg, fin, ovr, time, site, got, needs, ka, kc, xa, xc, ga, gc, na, nc⟩ t = false := by show (if fin = 0 then (decide (time = 0) && decide (site = 0)) else _) = _; rw [if_pos hf0]; exact hn2
      have HB : Hid (callOkB ⟨client, num, kind, keys, val, ctx, beg, fin, ovr, time, site, got, needs, ka, kc, xa, xc, ga, gc, na, nc⟩ t = false) := by
        show (inB client 0 1 && (inB num 1 99 && (keysB kind keys && (inB val 0 9999 && (depsOkB ctx && (depsOkB needs && (inB beg 1 t && (fitsB time site && (gotOkB keys (ps got) needs && (kindB ⟨client, num, kind, keys, val, ctx, beg, fin, ovr, time, site, got, needs, ka, kc, xa, xc, ga, gc, na, nc⟩ && finB ⟨client, num, kind, keys, val, ctx, beg, fin, ovr, time, site, got, needs, ka, kc, xa, xc, ga, gc, na, nc⟩ t)))))))))) = _
        rw [h0, h1, h2, h3, h4, h5, h6, h7, h8, hkb, hfb]
        all_goals rfl
      have HN2 := Lib.hid hn2
      clear hfb hn2 hf0
      go_wp2_with (first | (go_at_call 49; refine (in_impl _ _ _ _).mono ?_; rintro e w' ⟨rfl, rfl⟩) | (go_at_call 50; refine (isClient_impl _ _).mono ?_; rintro e w' ⟨rfl, rfl⟩))
      refine (bool_is HN2.out (none_impl time site _)).mono ?_
      rintro e w20 ⟨rfl, hb20⟩
      have BV := BV.below hb20 BV.lt
      have G0 := below_after G0 hb20
      clear p0 p1 p2 p3 p4 p5 p6 p7 p8 p9 p10 p11 p12 pf pl
      obtain ⟨p0, p1, p2, p3, p4, p5, p6, p7, p8, p9, p10, p11, p12, pf, pl⟩ := BV.call
      go_wp2
      go_ret
      exact ⟨by rw [HB.out]; rfl, G0⟩
    · skip
      have hfb : finB ⟨client, num, kind, keys, val, ctx, beg, fin, ovr, time, site, got, needs, ka, kc, xa, xc, ga, gc, na, nc⟩ t = true := by show (if fin = 0 then (decide (time = 0) && decide (site = 0)) else _) = _; rw [if_pos hf0]; exact hn2
      have HB : Hid (callOkB ⟨client, num, kind, keys, val, ctx, beg, fin, ovr, time, site, got, needs, ka, kc, xa, xc, ga, gc, na, nc⟩ t = true) := by
        show (inB client 0 1 && (inB num 1 99 && (keysB kind keys && (inB val 0 9999 && (depsOkB ctx && (depsOkB needs && (inB beg 1 t && (fitsB time site && (gotOkB keys (ps got) needs && (kindB ⟨client, num, kind, keys, val, ctx, beg, fin, ovr, time, site, got, needs, ka, kc, xa, xc, ga, gc, na, nc⟩ && finB ⟨client, num, kind, keys, val, ctx, beg, fin, ovr, time, site, got, needs, ka, kc, xa, xc, ga, gc, na, nc⟩ t)))))))))) = _
        rw [h0, h1, h2, h3, h4, h5, h6, h7, h8, hkb, hfb]
        all_goals rfl
      have HN2 := Lib.hid hn2
      clear hfb hn2 hf0
      go_wp2_with (first | (go_at_call 49; refine (in_impl _ _ _ _).mono ?_; rintro e w' ⟨rfl, rfl⟩) | (go_at_call 50; refine (isClient_impl _ _).mono ?_; rintro e w' ⟨rfl, rfl⟩))
      refine (bool_is HN2.out (none_impl time site _)).mono ?_
      rintro e w20 ⟨rfl, hb20⟩
      have BV := BV.below hb20 BV.lt
      have G0 := below_after G0 hb20
      clear p0 p1 p2 p3 p4 p5 p6 p7 p8 p9 p10 p11 p12 pf pl
      obtain ⟨p0, p1, p2, p3, p4, p5, p6, p7, p8, p9, p10, p11, p12, pf, pl⟩ := BV.call
      go_wp2
      go_ret
      exact ⟨by rw [HB.out]; rfl, G0⟩
  have hf0' : (fin == 0) = false := by simpa using hf0
  have hfin : finB ⟨client, num, kind, keys, val, ctx, beg, fin, ovr, time, site, got, needs, ka, kc, xa, xc, ga, gc, na, nc⟩ t = (!ovr && (inB fin (nextI beg) t && (decide (needs.length = 0) && decide (got.length = keys.length)))) := by show (if fin = 0 then _ else (!ovr && (inB fin (nextI beg) t && (decide (needs.length = 0) && (if kind = 1 then !(decide (time = 0) && decide (site = 0)) else decide (got.length = keys.length)))))) = _; rw [if_neg hf0, if_neg h1k]
  clear hf0
  rcases Bool.eq_false_or_eq_true ovr with hov | hov
  · skip
    have hfv : finB ⟨client, num, kind, keys, val, ctx, beg, fin, ovr, time, site, got, needs, ka, kc, xa, xc, ga, gc, na, nc⟩ t = false := by rw [hfin, hov]; rfl
    have HB : Hid (callOkB ⟨client, num, kind, keys, val, ctx, beg, fin, ovr, time, site, got, needs, ka, kc, xa, xc, ga, gc, na, nc⟩ t = false) := by
      show (inB client 0 1 && (inB num 1 99 && (keysB kind keys && (inB val 0 9999 && (depsOkB ctx && (depsOkB needs && (inB beg 1 t && (fitsB time site && (gotOkB keys (ps got) needs && (kindB ⟨client, num, kind, keys, val, ctx, beg, fin, ovr, time, site, got, needs, ka, kc, xa, xc, ga, gc, na, nc⟩ && finB ⟨client, num, kind, keys, val, ctx, beg, fin, ovr, time, site, got, needs, ka, kc, xa, xc, ga, gc, na, nc⟩ t)))))))))) = _
      rw [h0, h1, h2, h3, h4, h5, h6, h7, h8, hkb, hfv]
      all_goals rfl
    clear hfv
    clear hfin
    go_wp2_with (first | (go_at_call 49; refine (in_impl _ _ _ _).mono ?_; rintro e w' ⟨rfl, rfl⟩) | (go_at_call 50; refine (isClient_impl _ _).mono ?_; rintro e w' ⟨rfl, rfl⟩))
    go_ret
    exact ⟨by rw [HB.out]; rfl, G0⟩
  have hni : inB fin (wrap64 (beg + 1)) t = inB fin (nextI beg) t := by rw [nextI, show IntKind.i64.wrap (beg + 1) = wrap64 (beg + 1) from by rw [IntKind.wrap_i64]; unfold wrap64; omega]
  rcases hfi : inB fin (nextI beg) t with _ | _
  · skip
    have hfv : finB ⟨client, num, kind, keys, val, ctx, beg, fin, ovr, time, site, got, needs, ka, kc, xa, xc, ga, gc, na, nc⟩ t = false := by rw [hfin, hov, hfi]; rfl
    have HB : Hid (callOkB ⟨client, num, kind, keys, val, ctx, beg, fin, ovr, time, site, got, needs, ka, kc, xa, xc, ga, gc, na, nc⟩ t = false) := by
      show (inB client 0 1 && (inB num 1 99 && (keysB kind keys && (inB val 0 9999 && (depsOkB ctx && (depsOkB needs && (inB beg 1 t && (fitsB time site && (gotOkB keys (ps got) needs && (kindB ⟨client, num, kind, keys, val, ctx, beg, fin, ovr, time, site, got, needs, ka, kc, xa, xc, ga, gc, na, nc⟩ && finB ⟨client, num, kind, keys, val, ctx, beg, fin, ovr, time, site, got, needs, ka, kc, xa, xc, ga, gc, na, nc⟩ t)))))))))) = _
      rw [h0, h1, h2, h3, h4, h5, h6, h7, h8, hkb, hfv]
      all_goals rfl
    clear hfv
    clear hfin
    rw [hfi] at hni
    go_wp2_with (first | (go_at_call 49; refine (in_impl _ _ _ _).mono ?_; rintro e w' ⟨rfl, rfl⟩) | (go_at_call 50; refine (isClient_impl _ _).mono ?_; rintro e w' ⟨rfl, rfl⟩))
    go_ret
    exact ⟨by rw [HB.out]; rfl, G0⟩
  rw [hfi] at hni
  by_cases hnl : needs.length = 0
  rotate_left
  · skip
    have hnd : decide (needs.length = 0) = false := decide_eq_false hnl
    have hnp : (0 : Int) < (needs.length : Int) := by omega
    have hnq : 0 < needs.length := by omega
    have hfv : finB ⟨client, num, kind, keys, val, ctx, beg, fin, ovr, time, site, got, needs, ka, kc, xa, xc, ga, gc, na, nc⟩ t = false := by rw [hfin, hov, hfi, hnd]; rfl
    have HB : Hid (callOkB ⟨client, num, kind, keys, val, ctx, beg, fin, ovr, time, site, got, needs, ka, kc, xa, xc, ga, gc, na, nc⟩ t = false) := by
      show (inB client 0 1 && (inB num 1 99 && (keysB kind keys && (inB val 0 9999 && (depsOkB ctx && (depsOkB needs && (inB beg 1 t && (fitsB time site && (gotOkB keys (ps got) needs && (kindB ⟨client, num, kind, keys, val, ctx, beg, fin, ovr, time, site, got, needs, ka, kc, xa, xc, ga, gc, na, nc⟩ && finB ⟨client, num, kind, keys, val, ctx, beg, fin, ovr, time, site, got, needs, ka, kc, xa, xc, ga, gc, na, nc⟩ t)))))))))) = _
      rw [h0, h1, h2, h3, h4, h5, h6, h7, h8, hkb, hfv]
      all_goals rfl
    clear hfv
    clear hfin hnd hnl
    go_wp2_with (first | (go_at_call 49; refine (in_impl _ _ _ _).mono ?_; rintro e w' ⟨rfl, rfl⟩) | (go_at_call 50; refine (isClient_impl _ _).mono ?_; rintro e w' ⟨rfl, rfl⟩))
    go_ret
    exact ⟨by rw [HB.out]; rfl, G0⟩
  have hnd : decide (needs.length = 0) = true := decide_eq_true hnl
  have hnp : decide ((0 : Int) < (needs.length : Int)) = false := decide_eq_false (by omega)
  have hnq : decide (0 < needs.length) = false := decide_eq_false (by omega)
  have hfv : finB ⟨client, num, kind, keys, val, ctx, beg, fin, ovr, time, site, got, needs, ka, kc, xa, xc, ga, gc, na, nc⟩ t = decide (got.length = keys.length) := by rw [hfin, hov, hfi, hnd]; rfl
  have HB : Hid (callOkB ⟨client, num, kind, keys, val, ctx, beg, fin, ovr, time, site, got, needs, ka, kc, xa, xc, ga, gc, na, nc⟩ t = decide (got.length = keys.length)) := by
    show (inB client 0 1 && (inB num 1 99 && (keysB kind keys && (inB val 0 9999 && (depsOkB ctx && (depsOkB needs && (inB beg 1 t && (fitsB time site && (gotOkB keys (ps got) needs && (kindB ⟨client, num, kind, keys, val, ctx, beg, fin, ovr, time, site, got, needs, ka, kc, xa, xc, ga, gc, na, nc⟩ && finB ⟨client, num, kind, keys, val, ctx, beg, fin, ovr, time, site, got, needs, ka, kc, xa, xc, ga, gc, na, nc⟩ t)))))))))) = _
    rw [h0, h1, h2, h3, h4, h5, h6, h7, h8, hkb, hfv]
    all_goals rfl
  clear hfv
  clear hfin hnd hnl
  go_wp2_with (first | (go_at_call 49; refine (in_impl _ _ _ _).mono ?_; rintro e w' ⟨rfl, rfl⟩) | (go_at_call 50; refine (isClient_impl _ _).mono ?_; rintro e w' ⟨rfl, rfl⟩))
  first | refine (answered_impl ⟨client, num, kind, keys, val, ctx, beg, fin, false, time, site, got, needs, ka, kc, xa, xc, ga, gc, na, nc⟩ _).mono ?_ | refine (answered_impl ⟨client, num, kind, keys, val, ctx, beg, fin, ovr, time, site, got, needs, ka, kc, xa, xc, ga, gc, na, nc⟩ _).mono ?_
  rintro e w21 ⟨rfl, hb21⟩
  have G0 := below_after G0 hb21
  go_wp2
  go_ret
  exact ⟨by rw [HB.out]; rfl, G0⟩
theorem CallOk_impl (x : Mc) (t : Int) (w : World) (hin : CallIn w x) (hf : FewC x) :
    Calls Try.prog 37 #[.agg #[.int .i64 x.client, .int .i64 x.num, .int .i64 x.kind, .slice x.ka x.keys.length x.kc, .int .i64 x.val, .slice x.xa x.ctx.length x.xc, .int .i64 x.beg, .int .i64 x.fin, .bool x.over, .int .i64 x.time, .int .i64 x.site, .slice x.ga x.got.length x.gc, .slice x.na x.needs.length x.nc], .int .i64 t] w (Says (callOkB x t) w) := by
  obtain ⟨client, num, kind, keys, val, ctx, beg, fin, ovr, time, site, got, needs, ka, kc, xa, xc, ga, gc, na, nc⟩ := x
  exact CallOk_impl0 client num kind keys val ctx beg fin ovr time site got needs ka kc xa xc ga gc na nc t w hin hf

end Go.Proofs.Ythciikogogkfcaa
