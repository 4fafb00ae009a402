/- What a client has seen after a call: CallSaw of the reference. -/
import Derived.Test.YthciikogogkfcaaSawW2
import Derived.Test.YthciikogogkfcaaCallW8
namespace Go.Proofs.Ythciikogogkfcaa
open Go.RowKit Go.Deep
set_option linter.unusedVariables false

set_option maxRecDepth 100000 in
set_option maxHeartbeats 4000000 in
theorem CallSaw_spec0 (client : Int) (num : Int) (kind : Int) (keys : List Int) (val : Int) (ctx : List Dp) (beg : Int) (fin : Int) (ovr : Bool) (time : Int) (site : Int) (got : List An) (needs : List Dp) (ka : Option Addr) (kc : Nat) (xa : Option Addr) (xc : Nat) (ga : Option Addr) (gc : Nat) (na : Option Addr) (nc : Nat) (w : World) (hin : CallIn w ⟨client, num, kind, keys, val, ctx, beg, fin, ovr, time, site, got, needs, ka, kc, xa, xc, ga, gc, na, nc⟩) (hf : FewC ⟨client, num, kind, keys, val, ctx, beg, fin, ovr, time, site, got, needs, ka, kc, xa, xc, ga, gc, na, nc⟩) :
    Calls Try.prog 39 #[.agg #[.int .i64 client, .int .i64 num, .int .i64 kind, .slice ka keys.length kc, .int .i64 val, .slice xa ctx.length xc, .int .i64 beg, .int .i64 fin, .bool ovr, .int .i64 time, .int .i64 site, .slice ga got.length gc, .slice na needs.length nc]] w (OwnDeps (callSawS ⟨client, num, kind, keys, val, ctx, beg, fin, ovr, time, site, got, needs, ka, kc, xa, xc, ga, gc, na, nc⟩) w) := by
  have hcx : Reads w xa ctx.length xc (dpsC ctx) := hin.cx
  have hgt : Ans w ga gc got := hin.gt
  have hks : Reads w ka keys.length kc (intsC keys) := hin.ks
  have hlc : ctx.length ≤ 1048577 := hf.cx
  have hfa : FewA got := hf.gt
  have BV := Blk.new w #[.int .i64 client, .int .i64 num, .int .i64 kind, .slice ka keys.length kc, .int .i64 val, .slice xa ctx.length xc, .int .i64 beg, .int .i64 fin, .bool ovr, .int .i64 time, .int .i64 site, .slice ga got.length gc, .slice na needs.length nc] 73
  have G0 := below_box w (.cells #[.int .i64 client, .int .i64 num, .int .i64 kind, .slice ka keys.length kc, .int .i64 val, .slice xa ctx.length xc, .int .i64 beg, .int .i64 fin, .bool ovr, .int .i64 time, .int .i64 site, .slice ga got.length gc, .slice na needs.length nc] 73)
  obtain ⟨p0, p1, p2, p3, p4, p5, p6, p7, p8, p9, p10, p11, p12, pf, pl⟩ := BV.call
  obtain ⟨i0, hi, hz0, hz1, hz2⟩ := info_parts infoDep
  have hwr : IntKind.i64.wrap (beg + fin) = wrap64 (beg + fin) := by rw [IntKind.wrap_i64]; unfold wrap64; omega
  rcases hc : callOkB ⟨client, num, kind, keys, val, ctx, beg, fin, ovr, time, site, got, needs, ka, kc, xa, xc, ga, gc, na, nc⟩ (wrap64 (beg + fin)) with _ | _
  · have HR : Hid (callSawS ⟨client, num, kind, keys, val, ctx, beg, fin, ovr, time, site, got, needs, ka, kc, xa, xc, ga, gc, na, nc⟩ = []) := by show _ = _; show (if callOkB ⟨client, num, kind, keys, val, ctx, beg, fin, ovr, time, site, got, needs, ka, kc, xa, xc, ga, gc, na, nc⟩ (IntKind.i64.wrap (beg + fin)) then sawS ⟨client, num, kind, keys, val, ctx, beg, fin, ovr, time, site, got, needs, ka, kc, xa, xc, ga, gc, na, nc⟩ else []) = []; rw [hwr, hc]; rfl
    have HC := Lib.hid hc
    clear hc hwr
    go_enter Try.func39, Try.ntmps39
    go_wp2_with fail
    refine (bool_is HC.out (CallOk_spec ⟨client, num, kind, keys, val, ctx, beg, fin, ovr, time, site, got, needs, ka, kc, xa, xc, ga, gc, na, nc⟩ _ _ (hin.below G0) hf)).mono ?_
    rintro e w1 ⟨rfl, hb1⟩
    have G1 := below_after G0 hb1
    go_wp2
    go_ret
    exact ⟨_, rfl, by rw [HR.out]; exact World.ownsRow_made (size := 3) _ #[] 0 G1.size (by simp) (by simp), below_alloc G1 _⟩
  have HR0 : Hid (callSawS ⟨client, num, kind, keys, val, ctx, beg, fin, ovr, time, site, got, needs, ka, kc, xa, xc, ga, gc, na, nc⟩ = sawS ⟨client, num, kind, keys, val, ctx, beg, fin, ovr, time, site, got, needs, ka, kc, xa, xc, ga, gc, na, nc⟩) := by show _ = _; show (if callOkB ⟨client, num, kind, keys, val, ctx, beg, fin, ovr, time, site, got, needs, ka, kc, xa, xc, ga, gc, na, nc⟩ (IntKind.i64.wrap (beg + fin)) then sawS ⟨client, num, kind, keys, val, ctx, beg, fin, ovr, time, site, got, needs, ka, kc, xa, xc, ga, gc, na, nc⟩ else []) = _; rw [hwr, hc]; rfl
  have hg := goodC_of hc
  have hgc : depsOkB ctx = true := hg.cx
  have hgg : ∀ a ∈ ps got, GoodA a := hg.gt
  have HC := Lib.hid hc
  clear hc hwr
  go_enter Try.func39, Try.ntmps39
  go_wp2_with fail
  refine (bool_is HC.out (CallOk_spec ⟨client, num, kind, keys, val, ctx, beg, fin, ovr, time, site, got, needs, ka, kc, xa, xc, ga, gc, na, nc⟩ _ _ (hin.below G0) hf)).mono ?_
  rintro e w1 ⟨rfl, hb1⟩
  have BV := BV.below hb1 BV.lt
  have G1 := below_after G0 hb1
  clear p0 p1 p2 p3 p4 p5 p6 p7 p8 p9 p10 p11 p12 pf pl
  obtain ⟨q0, q1, q2, q3, q4, q5, q6, q7, q8, q9, q10, q11, q12, qf, ql⟩ := BV.call
  have own0 := World.ownsRow_made (base := w.heap.size) (size := 3) (e := 32) w1 #[] 0 G1.size (by simp) (by simp)
  have hsz := G1.size
  have hlt1 := BV.lt
  have BV := BV.alloc (.cells #[] 32)
  clear q0 q1 q2 q3 q4 q5 q6 q7 q8 q9 q10 q11 q12 qf ql
  obtain ⟨q0, q1, q2, q3, q4, q5, q6, q7, q8, q9, q10, q11, q12, qf, ql⟩ := BV.call
  go_wp2_with (at_builtin; refine wpList_append_src _ rfl (.tmp 14) (.tmp 16) 25 rfl w.heap.size 32 i0 _ 3 24 Try.underlying25 hi hz0 hz1 hz2 rfl (by decide) _ _ _ rfl own0 xa ctx.length xc (dpsC ctx) rfl (dpsC_len ctx) ((hcx.below G1).alloc _) (dpsC_one ctx) (by unfold maxLen; omega) (by omega) (by rw [World.size_alloc]; omega) ?_)
  intro v3 w3 own3 hg3
  have hb3 := below_app (below_alloc G1 (.cells #[] 32)) own0 hg3 (Nat.le_refl _) (by simp; omega)
  have own3 : w3.ownsRow w.heap.size 32 3 v3 ctx.length (dpsC ctx) := by simpa using own3
  have BV := BV.row hg3 (fun h => by have h' : w1.heap.size = w.heap.size := by simpa [Value.ownBlock] using h
                                     omega)
  clear hg3 own0 q0 q1 q2 q3 q4 q5 q6 q7 q8 q9 q10 q11 q12 qf ql
  obtain ⟨q0, q1, q2, q3, q4, q5, q6, q7, q8, q9, q10, q11, q12, qf, ql⟩ := BV.call
  obtain ⟨p1, c1, rfl, rd1⟩ := Reads.of_owns own3
  by_cases hfin : fin = 0
  · have HR : Hid (callSawS ⟨client, num, kind, keys, val, ctx, beg, fin, ovr, time, site, got, needs, ka, kc, xa, xc, ga, gc, na, nc⟩ = ctx) := by show _ = _; rw [HR0.out]; unfold sawS; rw [if_pos hfin]
    have hfe : (fin == 0) = true := by simpa using hfin
    clear hfin hg
    go_wp2
    go_ret
    exact ⟨_, rfl, by rw [HR.out]; exact own3, hb3⟩
  have hfe : (fin == 0) = false := by simpa using hfin
  by_cases hk1 : kind = 1
  · have hke : (kind == 1) = true := by simpa using hk1
    have hlen : 0 < keys.length := (hg.put hfin hk1).2
    have HR : Hid (callSawS ⟨client, num, kind, keys, val, ctx, beg, fin, ovr, time, site, got, needs, ka, kc, xa, xc, ga, gc, na, nc⟩ = putR ctx (keys[0], time, site)) := by
      show _ = _
      rw [HR0.out]
      unfold sawS
      rw [if_neg hfin, if_pos hk1]
      show putR ctx (keys.headD 0, time, site) = _
      rw [firstK_get keys hlen]
    have hki0 : (0 : Int) < (keys.length : Int) := by omega
    obtain ⟨kb, koff, hka, hkl, ck⟩ := key_cell (hks.below hb3) 0 hlen
    subst hka
    rw [Nat.add_zero] at ck
    have hbd := (Below.refl w3.heap.size w3).drew
    have BD := BV.below hbd BV.lt
    have GD := below_after hb3 hbd
    have rdD := rd1.below hbd
    have ckd : w3.drew.cell? ⟨kb, koff, none⟩ = some (.int .i64 keys[0]) := (hbd.cell hkl).trans ck
    obtain ⟨z0, z1, z2, z3, z4, z5, z6, z7, z8, z9, z10, z11, z12, zf, zl⟩ := BD.call
    have HK := Lib.hid hk1
    have HF := Lib.hid hfin
    clear hk1 hfin hg
    go_wp2_with fail
    go_region_with (go_at_call 101; (with_reducible refine (putS3 ctx _ _ _ p1 c1 _ rdD hlc).mono ?_); rintro e w4 ⟨v4, rfl, own4, hb4⟩; have own5 := own_base own4 GD.size; have GF := below_after GD hb4)
    all_goals
      go_wp2
      go_ret
      exact ⟨_, rfl, by rw [HR.out]; exact own5, GF⟩
  have hke : (kind == 1) = false := by simpa using hk1
  have HR : Hid (callSawS ⟨client, num, kind, keys, val, ctx, beg, fin, ovr, time, site, got, needs, ka, kc, xa, xc, ga, gc, na, nc⟩ = (ps got).foldl stepP (joinR ctx ((ps got).foldl stepC []))) := by
    show _ = _
    rw [HR0.out]
    unfold sawS
    rw [if_neg hfin, if_neg hk1]
  have HK := Lib.hid hk1
  have HF := Lib.hid hfin
  clear hk1 hfin hg
  have hlg : got.length ≤ 1048577 := hfa.1
  have hCok := foldC_ok hgg ok_nil
  have hClen := depsOk_len hCok
  go_wp2_with fail
  refine (l31Came_spec0 client num kind keys val ctx beg fin ovr time site got needs ka kc xa xc ga gc na nc _ (hin.below hb3) hf hgg).mono ?_
  rintro e w4 ⟨v4, rfl, own4, hb4⟩
  obtain ⟨p4, c4, rfl, rd4⟩ := Reads.of_owns own4
  have BV := BV.below hb4 BV.lt
  have G4 := below_after hb3 hb4
  have rd5 := rd1.below hb4
  clear q0 q1 q2 q3 q4 q5 q6 q7 q8 q9 q10 q11 q12 qf ql
  obtain ⟨q0, q1, q2, q3, q4, q5, q6, q7, q8, q9, q10, q11, q12, qf, ql⟩ := BV.call
  obtain ⟨J, hJ⟩ : ∃ J, J = (ps got).foldl stepC [] := ⟨_, rfl⟩
  rw [← hJ] at rd4 hCok hClen HR ⊢
  clear hJ
  go_wp2_with fail
  refine (DepsJoin_spec ctx J p1 p4 c1 c4 _ rd5 rd4 hlc (by omega)).mono ?_
  rintro e w5 ⟨v5, rfl, own5, hb5⟩
  have hJok := joinR_okB hgc hCok
  have BV := BV.below hb5 BV.lt
  have G5 := below_after G4 hb5
  have own5 := own_base own5 G4.size
  clear q0 q1 q2 q3 q4 q5 q6 q7 q8 q9 q10 q11 q12 qf ql
  obtain ⟨q0, q1, q2, q3, q4, q5, q6, q7, q8, q9, q10, q11, q12, qf, ql⟩ := BV.call
  go_wp2
  go_loopw [3, 4] (fun v i wr => ∃ k : Nat, ∃ O : List Dp, k ≤ got.length ∧ i = .int .i64 k ∧ O = ((ps got).take k).foldl stepP (joinR ctx J) ∧ depsOkB O = true ∧ wr.ownsRow w.heap.size 32 3 v O.length (dpsC O) ∧ Blk wr w.heap.size #[.int .i64 client, .int .i64 num, .int .i64 kind, .slice ka keys.length kc, .int .i64 val, .slice xa ctx.length xc, .int .i64 beg, .int .i64 fin, .bool ovr, .int .i64 time, .int .i64 site, .slice ga got.length gc, .slice na needs.length nc] 73 ∧ Below w.heap.size w wr) (fun _ i _ => got.length - (intOf i).toNat)
  case atStart => exact ⟨0, _, Nat.zero_le _, rfl, rfl, hJok, own5, BV, G5⟩
  case round =>
    obtain ⟨k, O, hk, rfl, hO, hok, own, BW, hBw⟩ := hrel
    obtain ⟨p, c, rfl, rd⟩ := Reads.of_owns own
    have hlO := depsOk_len hok
    have HO := Lib.hid hO
    have HOK := Lib.hid hok
    clear hO hok
    obtain ⟨r0, r1, r2, r3, r4, r5, r6, r7, r8, r9, r10, r11, r12, rf, rl⟩ := BW.call
    by_cases hlt : k < got.length
    · have hv := hgt.below hBw
      have hi0 : (0 : Int) ≤ (k : Int) := by omega
      have hi1 : (k : Int) < (got.length : Int) := by omega
      obtain ⟨b, off, hab, hbl, c0, c1, c2, c3, c4, c5, c6, c7, c8⟩ := hv.at_ k hlt
      have hgk : GoodA got[k].p := hgg _ (by rw [← ps_get got k hlt]; exact List.getElem_mem _)
      have HT := Lib.hid (foldP_take got (joinR ctx J) k hlt)
      subst hab
      obtain ⟨y, hy⟩ : ∃ y, got[k].p.yes = y := ⟨_, rfl⟩
      rw [hy] at c1
      cases y with
      | false =>
        have HN : Hid (O = ((ps got).take (k + 1)).foldl stepP (joinR ctx J)) := by show _ = _; rw [HT.out, ← HO.out]; unfold stepP; rw [hy]; rfl
        clear hy hgk
        go_wp2
        go_roundw
        case rel => exact ⟨k + 1, O, by omega, by go_num, HN.out, HOK.out, own, BW, hBw⟩
        case measure => simp [intOf]; omega
      | true =>
        have HN : Hid (putR O (got[k].p.key, got[k].p.v.time, got[k].p.v.site) = ((ps got).take (k + 1)).foldl stepP (joinR ctx J)) := by show _ = _; rw [HT.out, ← HO.out]; unfold stepP; rw [if_pos hy]; rfl
        have HM : Hid (depsOkB (putR O (got[k].p.key, got[k].p.v.time, got[k].p.v.site)) = true) := by show _ = _; rw [HN.out]; exact foldP_ok (good_take hgg (k + 1)) hJok
        clear hy hgk
        have hbd := (Below.refl wr.heap.size wr).drew
        have BD := BW.below hbd BW.lt
        have GD := below_after hBw hbd
        have rdD := rd.below hbd
        obtain ⟨d0, d1, d2, d3, d4⟩ : wr.drew.cell? ⟨b, off + k * 9, none⟩ = some (.int .i64 got[k].p.key) ∧ wr.drew.cell? ⟨b, off + k * 9 + 1, none⟩ = some (.bool true) ∧ wr.drew.cell? ⟨b, off + k * 9 + 2, none⟩ = some (.int .i64 got[k].p.v.key) ∧ wr.drew.cell? ⟨b, off + k * 9 + 3, none⟩ = some (.int .i64 got[k].p.v.time) ∧ wr.drew.cell? ⟨b, off + k * 9 + 4, none⟩ = some (.int .i64 got[k].p.v.site) := ⟨(hbd.cell hbl).trans c0, (hbd.cell hbl).trans c1, (hbd.cell hbl).trans c2, (hbd.cell hbl).trans c3, (hbd.cell hbl).trans c4⟩
        obtain ⟨z0, z1, z2, z3, z4, z5, z6, z7, z8, z9, z10, z11, z12, zf, zl⟩ := BD.call
        go_wp2_with fail
        go_region_with (go_at_call 101; (with_reducible refine (putS3 O _ _ _ p c _ rdD (by omega)).mono ?_); rintro e w6 ⟨v6, rfl, own6, hb6⟩; have own7 := own_base own6 GD.size; have GF := below_after GD hb6; have BX := BD.below hb6 BD.lt)
        all_goals
          go_wp2
          go_roundw
          case rel => exact ⟨k + 1, _, by omega, by go_num, HN.out, HM.out, own7, BX, GF⟩
          case measure => simp [intOf]; omega
    · obtain rfl : k = got.length := by omega
      have HE : Hid (callSawS ⟨client, num, kind, keys, val, ctx, beg, fin, ovr, time, site, got, needs, ka, kc, xa, xc, ga, gc, na, nc⟩ = O) := by show _ = _; rw [HR.out, HO.out, ← ps_len got, List.take_length]
      go_wp2
      go_ret
      exact ⟨_, rfl, by rw [HE.out]; exact own, hBw⟩

theorem CallSaw_impl (x : Mc) (w : World) (hin : CallIn w x) (hf : FewC x) :
    Calls Try.prog 40 #[.agg #[.int .i64 x.client, .int .i64 x.num, .int .i64 x.kind, .slice x.ka x.keys.length x.kc, .int .i64 x.val, .slice x.xa x.ctx.length x.xc, .int .i64 x.beg, .int .i64 x.fin, .bool x.over, .int .i64 x.time, .int .i64 x.site, .slice x.ga x.got.length x.gc, .slice x.na x.needs.length x.nc]] w (OwnDeps (callSawI x) w) := by
  obtain ⟨client, num, kind, keys, val, ctx, beg, fin, ovr, time, site, got, needs, ka, kc, xa, xc, ga, gc, na, nc⟩ := x
  exact CallSaw_impl0 client num kind keys val ctx beg fin ovr time site got needs ka kc xa xc ga gc na nc w hin hf
theorem CallSaw_spec (x : Mc) (w : World) (hin : CallIn w x) (hf : FewC x) :
    Calls Try.prog 39 #[.agg #[.int .i64 x.client, .int .i64 x.num, .int .i64 x.kind, .slice x.ka x.keys.length x.kc, .int .i64 x.val, .slice x.xa x.ctx.length x.xc, .int .i64 x.beg, .int .i64 x.fin, .bool x.over, .int .i64 x.time, .int .i64 x.site, .slice x.ga x.got.length x.gc, .slice x.na x.needs.length x.nc]] w (OwnDeps (callSawI x) w) := by
  rw [← callSaw_same]
  obtain ⟨client, num, kind, keys, val, ctx, beg, fin, ovr, time, site, got, needs, ka, kc, xa, xc, ga, gc, na, nc⟩ := x
  exact CallSaw_spec0 client num kind keys val ctx beg fin ovr time site got needs ka kc xa xc ga gc na nc w hin hf
end Go.Proofs.Ythciikogogkfcaa
