/- What a client has seen after a call: CallSaw of the program; l31Came. -/
import Derived.Test.YthciikogogkfcaaSawW
import Derived.Test.YthciikogogkfcaaCallW4
namespace Go.Proofs.Ythciikogogkfcaa
open Go.RowKit Go.Deep
set_option linter.unusedVariables false

set_option maxRecDepth 100000 in
set_option maxHeartbeats 4000000 in
theorem CallSaw_impl0 (client : Int) (num : Int) (kind : Int) (keys : List Int) (val : Int) (ctx : List Dp) (beg : Int) (fin : Int) (ovr : Bool) (time : Int) (site : Int) (got : List An) (needs : List Dp) (ka : Option Addr) (kc : Nat) (xa : Option Addr) (xc : Nat) (ga : Option Addr) (gc : Nat) (na : Option Addr) (nc : Nat) (w : World) (hin : CallIn w ⟨client, num, kind, keys, val, ctx, beg, fin, ovr, time, site, got, needs, ka, kc, xa, xc, ga, gc, na, nc⟩) (hf : FewC ⟨client, num, kind, keys, val, ctx, beg, fin, ovr, time, site, got, needs, ka, kc, xa, xc, ga, gc, na, nc⟩) :
    Calls Try.prog 40 #[.agg #[.int .i64 client, .int .i64 num, .int .i64 kind, .slice ka keys.length kc, .int .i64 val, .slice xa ctx.length xc, .int .i64 beg, .int .i64 fin, .bool ovr, .int .i64 time, .int .i64 site, .slice ga got.length gc, .slice na needs.length nc]] w (OwnDeps (callSawI ⟨client, num, kind, keys, val, ctx, beg, fin, ovr, time, site, got, needs, ka, kc, xa, xc, ga, gc, na, nc⟩) w) := by
  have hcx : Reads w xa ctx.length xc (dpsC ctx) := hin.cx
  have hgt : Ans w ga gc got := hin.gt
  have hks : Reads w ka keys.length kc (intsC keys) := hin.ks
  have hlc : ctx.length ≤ 1048577 := hf.cx
  have hfa : FewA got := hf.gt
  have BV := Blk.new w #[.int .i64 client, .int .i64 num, .int .i64 kind, .slice ka keys.length kc, .int .i64 val, .slice xa ctx.length xc, .int .i64 beg, .int .i64 fin, .bool ovr, .int .i64 time, .int .i64 site, .slice ga got.length gc, .slice na needs.length nc] 73
  have G0 := below_box w (.cells #[.int .i64 client, .int .i64 num, .int .i64 kind, .slice ka keys.length kc, .int .i64 val, .slice xa ctx.length xc, .int .i64 beg, .int .i64 fin, .bool ovr, .int .i64 time, .int .i64 site, .slice ga got.length gc, .slice na needs.length nc] 73)
  obtain ⟨p0, p1, p2, p3, p4, p5, p6, p7, p8, p9, p10, p11, p12, pf, pl⟩ := BV.call
  have hwr : IntKind.i64.wrap (beg + fin) = wrap64 (beg + fin) := by rw [IntKind.wrap_i64]; unfold wrap64; omega
  rcases hc : callOkB ⟨client, num, kind, keys, val, ctx, beg, fin, ovr, time, site, got, needs, ka, kc, xa, xc, ga, gc, na, nc⟩ (wrap64 (beg + fin)) with _ | _
  · have HR : Hid (callSawI ⟨client, num, kind, keys, val, ctx, beg, fin, ovr, time, site, got, needs, ka, kc, xa, xc, ga, gc, na, nc⟩ = []) := by show _ = _; show (if callOkB ⟨client, num, kind, keys, val, ctx, beg, fin, ovr, time, site, got, needs, ka, kc, xa, xc, ga, gc, na, nc⟩ (IntKind.i64.wrap (beg + fin)) then sawI ⟨client, num, kind, keys, val, ctx, beg, fin, ovr, time, site, got, needs, ka, kc, xa, xc, ga, gc, na, nc⟩ else []) = []; rw [hwr, hc]; rfl
    have HC := Lib.hid hc
    clear hc hwr
    go_enter Try.func40, Try.ntmps40
    go_wp2_with fail
    refine (bool_is HC.out (CallOk_impl ⟨client, num, kind, keys, val, ctx, beg, fin, ovr, time, site, got, needs, ka, kc, xa, xc, ga, gc, na, nc⟩ _ _ (hin.below G0) hf)).mono ?_
    rintro e w1 ⟨rfl, hb1⟩
    go_wp2
    go_ret
    exact ⟨_, rfl, by rw [HR.out]; exact World.ownsRow_nil _ _ _ _, below_after G0 hb1⟩
  · have HR : Hid (callSawI ⟨client, num, kind, keys, val, ctx, beg, fin, ovr, time, site, got, needs, ka, kc, xa, xc, ga, gc, na, nc⟩ = sawI ⟨client, num, kind, keys, val, ctx, beg, fin, ovr, time, site, got, needs, ka, kc, xa, xc, ga, gc, na, nc⟩) := by show _ = _; show (if callOkB ⟨client, num, kind, keys, val, ctx, beg, fin, ovr, time, site, got, needs, ka, kc, xa, xc, ga, gc, na, nc⟩ (IntKind.i64.wrap (beg + fin)) then sawI ⟨client, num, kind, keys, val, ctx, beg, fin, ovr, time, site, got, needs, ka, kc, xa, xc, ga, gc, na, nc⟩ else []) = _; rw [hwr, hc]; rfl
    have hg := goodC_of hc
    have HC := Lib.hid hc
    clear hc hwr
    go_enter Try.func40, Try.ntmps40
    go_wp2_with fail
    refine (bool_is HC.out (CallOk_impl ⟨client, num, kind, keys, val, ctx, beg, fin, ovr, time, site, got, needs, ka, kc, xa, xc, ga, gc, na, nc⟩ _ _ (hin.below G0) hf)).mono ?_
    rintro e w1 ⟨rfl, hb1⟩
    have BV := BV.below hb1 BV.lt
    have G1 := below_after G0 hb1
    clear p0 p1 p2 p3 p4 p5 p6 p7 p8 p9 p10 p11 p12 pf pl
    obtain ⟨q0, q1, q2, q3, q4, q5, q6, q7, q8, q9, q10, q11, q12, qf, ql⟩ := BV.call
    go_wp2_with fail
    refine (saw_impl0 client num kind keys val ctx beg fin ovr time site got needs ka kc xa xc ga gc na nc _ (hin.below G1) hf hg).mono ?_
    rintro e w2 ⟨v2, rfl, own2, hb2⟩
    have G2 := below_after G1 hb2
    have own3 := own_base own2 G1.size
    go_wp2
    go_ret
    exact ⟨_, rfl, by rw [HR.out]; exact own3, G2⟩

set_option maxRecDepth 100000 in
set_option maxHeartbeats 4000000 in
theorem l31Came_spec0 (client : Int) (num : Int) (kind : Int) (keys : List Int) (val : Int) (ctx : List Dp) (beg : Int) (fin : Int) (ovr : Bool) (time : Int) (site : Int) (got : List An) (needs : List Dp) (ka : Option Addr) (kc : Nat) (xa : Option Addr) (xc : Nat) (ga : Option Addr) (gc : Nat) (na : Option Addr) (nc : Nat) (w : World) (hin : CallIn w ⟨client, num, kind, keys, val, ctx, beg, fin, ovr, time, site, got, needs, ka, kc, xa, xc, ga, gc, na, nc⟩) (hf : FewC ⟨client, num, kind, keys, val, ctx, beg, fin, ovr, time, site, got, needs, ka, kc, xa, xc, ga, gc, na, nc⟩) (hgg : ∀ a ∈ ps got, GoodA a) :
    Calls Try.prog 103 #[.agg #[.int .i64 client, .int .i64 num, .int .i64 kind, .slice ka keys.length kc, .int .i64 val, .slice xa ctx.length xc, .int .i64 beg, .int .i64 fin, .bool ovr, .int .i64 time, .int .i64 site, .slice ga got.length gc, .slice na needs.length nc]] w (OwnDeps ((ps got).foldl stepC []) w) := by
  have hcx : Reads w xa ctx.length xc (dpsC ctx) := hin.cx
  have hgt : Ans w ga gc got := hin.gt
  have hks : Reads w ka keys.length kc (intsC keys) := hin.ks
  have hlc : ctx.length ≤ 1048577 := hf.cx
  have hfa : FewA got := hf.gt
  have BV := Blk.new w #[.int .i64 client, .int .i64 num, .int .i64 kind, .slice ka keys.length kc, .int .i64 val, .slice xa ctx.length xc, .int .i64 beg, .int .i64 fin, .bool ovr, .int .i64 time, .int .i64 site, .slice ga got.length gc, .slice na needs.length nc] 73
  have G0 := below_box w (.cells #[.int .i64 client, .int .i64 num, .int .i64 kind, .slice ka keys.length kc, .int .i64 val, .slice xa ctx.length xc, .int .i64 beg, .int .i64 fin, .bool ovr, .int .i64 time, .int .i64 site, .slice ga got.length gc, .slice na needs.length nc] 73)
  obtain ⟨p0, p1, p2, p3, p4, p5, p6, p7, p8, p9, p10, p11, p12, pf, pl⟩ := BV.call
  have hlg : got.length ≤ 1048577 := hfa.1
  have G1 := below_alloc G0 (.cells #[] 32)
  have BV := BV.alloc (.cells #[] 32)
  have own0 := World.ownsRow_made (base := w.heap.size) (size := 3) (e := 32) (w.alloc (.cells #[.int .i64 client, .int .i64 num, .int .i64 kind, .slice ka keys.length kc, .int .i64 val, .slice xa ctx.length xc, .int .i64 beg, .int .i64 fin, .bool ovr, .int .i64 time, .int .i64 site, .slice ga got.length gc, .slice na needs.length nc] 73)) #[] 0 G0.size (by simp) (by simp)
  simp only [World.size_alloc] at own0
  clear p0 p1 p2 p3 p4 p5 p6 p7 p8 p9 p10 p11 p12 pf pl
  go_enter Try.func103, Try.ntmps103
  go_wp2
  go_loopw [3, 4] (fun v i wr => ∃ k : Nat, ∃ O : List Dp, k ≤ got.length ∧ i = .int .i64 k ∧ O = ((ps got).take k).foldl stepC [] ∧ depsOkB O = true ∧ wr.ownsRow w.heap.size 32 3 v O.length (dpsC O) ∧ Blk wr w.heap.size #[.int .i64 client, .int .i64 num, .int .i64 kind, .slice ka keys.length kc, .int .i64 val, .slice xa ctx.length xc, .int .i64 beg, .int .i64 fin, .bool ovr, .int .i64 time, .int .i64 site, .slice ga got.length gc, .slice na needs.length nc] 73 ∧ Below w.heap.size w wr) (fun _ i _ => got.length - (intOf i).toNat)
  case atStart => exact ⟨0, [], Nat.zero_le _, rfl, rfl, ok_nil, own0, BV, G1⟩
  case round =>
    obtain ⟨k, O, hk, rfl, hO, hok, own, BW, hBw⟩ := hrel
    obtain ⟨p, c, rfl, rd⟩ := Reads.of_owns own
    have hlO := depsOk_len hok
    have HO := Lib.hid hO
    have HOK := Lib.hid hok
    clear hO hok
    obtain ⟨q0, q1, q2, q3, q4, q5, q6, q7, q8, q9, q10, q11, q12, qf, ql⟩ := BW.call
    by_cases hlt : k < got.length
    · have hv := hgt.below hBw
      have hi0 : (0 : Int) ≤ (k : Int) := by omega
      have hi1 : (k : Int) < (got.length : Int) := by omega
      obtain ⟨b, off, hab, hbl, c0, c1, c2, c3, c4, c5, c6, c7, c8⟩ := hv.at_ k hlt
      have hr := hv.get k hlt
      have hgk : GoodA got[k].p := hgg _ (by rw [← ps_get got k hlt]; exact List.getElem_mem _)
      have HT := Lib.hid (foldC_take got [] k hlt)
      have hfk := hfa.get k hlt
      have HN : Hid (joinR O got[k].p.v.deps = ((ps got).take (k + 1)).foldl stepC []) := by show _ = _; rw [HT.out, ← HO.out]; rfl
      have HM : Hid (depsOkB (joinR O got[k].p.v.deps) = true) := joinR_okB HOK.out hgk.dp
      subst hab
      clear hgk
      go_wp2_with fail
      refine (DepsJoin_spec O got[k].p.v.deps p got[k].a c got[k].c _ rd hr (by omega) hfk).mono ?_
      rintro e w2 ⟨v2, rfl, own2, hb2⟩
      have GF := below_after hBw hb2
      have own3 := own_base own2 hBw.size
      have BX := BW.below hb2 BW.lt
      go_wp2
      go_roundw
      case rel => exact ⟨k + 1, _, by omega, by go_num, HN.out, HM.out, own3, BX, GF⟩
      case measure => simp [intOf]; omega
    · obtain rfl : k = got.length := by omega
      have HE : Hid ((ps got).foldl stepC [] = O) := by show _ = _; rw [HO.out, ← ps_len got, List.take_length]
      go_wp2
      go_ret
      exact ⟨_, rfl, by rw [HE.out]; exact own, hBw⟩

end Go.Proofs.Ythciikogogkfcaa
