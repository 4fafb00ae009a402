/- What a client has seen after a call: the program's function and the reference's give what the plain ones give. -/
import Derived.Test.YthciikogogkfcaaSawP
import Derived.Test.YthciikogogkfcaaCallW
import Derived.Test.YthciikogogkfcaaPutW2
import Derived.Test.YthciikogogkfcaaChainW
import Derived.Deep.RegionHeld3
namespace Go.Proofs.Ythciikogogkfcaa
open Go.RowKit Go.Deep
set_option linter.unusedVariables false

theorem put3 (l : List Dp) (k t s : Int) (a : Option Addr) (cap : Nat) (w : World) (hr : Reads w a l.length cap (dpsC l)) (hl : l.length ≤ 1048577) (hok : depsOkB l = true) :
    Calls Try.prog 133 #[.slice a l.length cap, .agg #[.int .i64 k, .int .i64 t, .int .i64 s]] w (OwnDeps (putF l (k, t, s)) w) := put_impl l (k, t, s) a cap w hr hl hok
theorem putS3 (l : List Dp) (k t s : Int) (a : Option Addr) (cap : Nat) (w : World) (hr : Reads w a l.length cap (dpsC l)) (hl : l.length ≤ 1048577) :
    Calls Try.prog 101 #[.slice a l.length cap, .agg #[.int .i64 k, .int .i64 t, .int .i64 s]] w (OwnDeps (putR l (k, t, s)) w) := DepsPut_spec l (k, t, s) a cap w hr hl
theorem firstK_get (keys : List Int) (h : 0 < keys.length) : keys.headD 0 = keys[0] := by
  cases keys with
  | nil => simp at h
  | cons k l => rfl

set_option maxRecDepth 100000 in
set_option maxHeartbeats 4000000 in
theorem saw_impl0 (client : Int) (num : Int) (kind : Int) (keys : List Int) (val : Int) (ctx : List Dp) (beg : Int) (fin : Int) (ovr : Bool) (time : Int) (site : Int) (got : List An) (needs : List Dp) (ka : Option Addr) (kc : Nat) (xa : Option Addr) (xc : Nat) (ga : Option Addr) (gc : Nat) (na : Option Addr) (nc : Nat) (w : World) (hin : CallIn w ⟨client, num, kind, keys, val, ctx, beg, fin, ovr, time, site, got, needs, ka, kc, xa, xc, ga, gc, na, nc⟩) (hf : FewC ⟨client, num, kind, keys, val, ctx, beg, fin, ovr, time, site, got, needs, ka, kc, xa, xc, ga, gc, na, nc⟩) (hg : GoodC ⟨client, num, kind, keys, val, ctx, beg, fin, ovr, time, site, got, needs, ka, kc, xa, xc, ga, gc, na, nc⟩) :
    Calls Try.prog 104 #[.agg #[.int .i64 client, .int .i64 num, .int .i64 kind, .slice ka keys.length kc, .int .i64 val, .slice xa ctx.length xc, .int .i64 beg, .int .i64 fin, .bool ovr, .int .i64 time, .int .i64 site, .slice ga got.length gc, .slice na needs.length nc]] w (OwnDeps (sawI ⟨client, num, kind, keys, val, ctx, beg, fin, ovr, time, site, got, needs, ka, kc, xa, xc, ga, gc, na, nc⟩) w) := by
  have hcx : Reads w xa ctx.length xc (dpsC ctx) := hin.cx
  have hgt : Ans w ga gc got := hin.gt
  have hks : Reads w ka keys.length kc (intsC keys) := hin.ks
  have hlc : ctx.length ≤ 1048577 := hf.cx
  have hfa : FewA got := hf.gt
  have BV := Blk.new w #[.int .i64 client, .int .i64 num, .int .i64 kind, .slice ka keys.length kc, .int .i64 val, .slice xa ctx.length xc, .int .i64 beg, .int .i64 fin, .bool ovr, .int .i64 time, .int .i64 site, .slice ga got.length gc, .slice na needs.length nc] 73
  have G0 := below_box w (.cells #[.int .i64 client, .int .i64 num, .int .i64 kind, .slice ka keys.length kc, .int .i64 val, .slice xa ctx.length xc, .int .i64 beg, .int .i64 fin, .bool ovr, .int .i64 time, .int .i64 site, .slice ga got.length gc, .slice na needs.length nc] 73)
  obtain ⟨p0, p1, p2, p3, p4, p5, p6, p7, p8, p9, p10, p11, p12, pf, pl⟩ := BV.call
  have hgc : depsOkB ctx = true := hg.cx
  have hgg : ∀ a ∈ ps got, GoodA a := hg.gt
  go_enter Try.func104, Try.ntmps104
  go_wp2_with fail
  refine (cloneDeps_impl ctx xa xc _ (hcx.below G0) hlc).mono ?_
  rintro e w1 ⟨v1, rfl, own1, hb1⟩
  have BV := BV.below hb1 BV.lt
  have G1 := below_after G0 hb1
  have own1 := own_base own1 G0.size
  clear p0 p1 p2 p3 p4 p5 p6 p7 p8 p9 p10 p11 p12 pf pl
  obtain ⟨q0, q1, q2, q3, q4, q5, q6, q7, q8, q9, q10, q11, q12, qf, ql⟩ := BV.call
  obtain ⟨p1, c1, rfl, rd1⟩ := Reads.of_owns own1
  by_cases hfin : fin = 0
  · have HR : Hid (sawI ⟨client, num, kind, keys, val, ctx, beg, fin, ovr, time, site, got, needs, ka, kc, xa, xc, ga, gc, na, nc⟩ = ctx) := by show _ = _; unfold sawI; rw [if_pos hfin]
    have hfe : (fin == 0) = true := by simpa using hfin
    clear hfin hg
    go_wp2
    go_ret
    exact ⟨_, rfl, by rw [HR.out]; exact own1, G1⟩
  have hfe : (fin == 0) = false := by simpa using hfin
  by_cases hk1 : kind = 1
  · have hke : (kind == 1) = true := by simpa using hk1
    have hlen : 0 < keys.length := (hg.put hfin hk1).2
    have HR : Hid (sawI ⟨client, num, kind, keys, val, ctx, beg, fin, ovr, time, site, got, needs, ka, kc, xa, xc, ga, gc, na, nc⟩ = putF ctx (keys[0], time, site)) := by
      show _ = _
      unfold sawI
      rw [if_neg hfin, if_pos hk1]
      show putF ctx (keys.headD 0, time, site) = _
      rw [firstK_get keys hlen]
    have hki0 : (0 : Int) < (keys.length : Int) := by omega
    obtain ⟨kb, koff, hka, hkl, ck⟩ := key_cell (hks.below G1) 0 hlen
    subst hka
    rw [Nat.add_zero] at ck
    have hbd := (Below.refl w1.heap.size w1).drew
    have BD := BV.below hbd BV.lt
    have GD := below_after G1 hbd
    have rdD := rd1.below hbd
    have ckd : w1.drew.cell? ⟨kb, koff, none⟩ = some (.int .i64 keys[0]) := (hbd.cell hkl).trans ck
    obtain ⟨z0, z1, z2, z3, z4, z5, z6, z7, z8, z9, z10, z11, z12, zf, zl⟩ := BD.call
    have HK := Lib.hid hk1
    have HF := Lib.hid hfin
    clear hk1 hfin hg
    go_wp2_with fail
    go_region_with (go_at_call 133; (with_reducible refine (put3 ctx _ _ _ p1 c1 _ rdD hlc hgc).mono ?_); rintro e w2 ⟨v2, rfl, own2, hb2⟩; have own3 := own_base own2 GD.size; have GF := below_after GD hb2)
    all_goals
      go_wp2
      go_ret
      exact ⟨_, rfl, by rw [HR.out]; exact own3, GF⟩
  have hke : (kind == 1) = false := by simpa using hk1
  have HR : Hid (sawI ⟨client, num, kind, keys, val, ctx, beg, fin, ovr, time, site, got, needs, ka, kc, xa, xc, ga, gc, na, nc⟩ = (ps got).foldl stepI ctx) := by
    show _ = _
    unfold sawI
    rw [if_neg hfin, if_neg hk1]
  have HK := Lib.hid hk1
  have HF := Lib.hid hfin
  clear hk1 hfin hg
  have hlg : got.length ≤ 1048577 := hfa.1
  go_wp2
  go_loopw [3, 28] (fun v i wr => ∃ k : Nat, ∃ O : List Dp, k ≤ got.length ∧ i = .int .i64 k ∧ O = ((ps got).take k).foldl stepI ctx ∧ depsOkB O = true ∧ wr.ownsRow w.heap.size 32 3 v O.length (dpsC O) ∧ Below w.heap.size w wr) (fun _ i _ => got.length - (intOf i).toNat)
  case atStart => exact ⟨0, ctx, Nat.zero_le _, rfl, rfl, hgc, own1, G1⟩
  case round =>
    obtain ⟨k, O, hk, rfl, hO, hok, own, hBw⟩ := hrel
    obtain ⟨p, c, rfl, rd⟩ := Reads.of_owns own
    have hlO := depsOk_len hok
    have HO := Lib.hid hO
    have HOK := Lib.hid hok
    clear hO hok
    by_cases hlt : k < got.length
    · have hv := hgt.below hBw
      have hi0 : (0 : Int) ≤ (k : Int) := by omega
      have hi1 : (k : Int) < (got.length : Int) := by omega
      obtain ⟨b, off, hab, hbl, c0, c1, c2, c3, c4, c5, c6, c7, c8⟩ := hv.at_ k hlt
      have hr := hv.get k hlt
      have hgk : GoodA got[k].p := hgg _ (by rw [← ps_get got k hlt]; exact List.getElem_mem _)
      have HT := Lib.hid (foldI_take got ctx k hlt)
      have hfk := hfa.get k hlt
      subst hab
      obtain ⟨y, hy⟩ : ∃ y, got[k].p.yes = y := ⟨_, rfl⟩
      rw [hy] at c1
      cases y with
      | false =>
        have HN : Hid (O = ((ps got).take (k + 1)).foldl stepI ctx) := by show _ = _; rw [HT.out, ← HO.out]; unfold stepI; rw [hy]; rfl
        clear hy hgk
        have BE := Blk.new wr #[.int .i64 got[k].p.key, .bool false, .int .i64 got[k].p.v.key, .int .i64 got[k].p.v.time, .int .i64 got[k].p.v.site, .int .i64 got[k].p.v.val, .int .i64 got[k].p.v.client, .int .i64 got[k].p.v.call, .slice got[k].a got[k].p.v.deps.length got[k].c] 114
        have GE := below_alloc hBw (.cells #[.int .i64 got[k].p.key, .bool false, .int .i64 got[k].p.v.key, .int .i64 got[k].p.v.time, .int .i64 got[k].p.v.site, .int .i64 got[k].p.v.val, .int .i64 got[k].p.v.client, .int .i64 got[k].p.v.call, .slice got[k].a got[k].p.v.deps.length got[k].c] 114)
        have own := own_below own (below_box wr (.cells #[.int .i64 got[k].p.key, .bool false, .int .i64 got[k].p.v.key, .int .i64 got[k].p.v.time, .int .i64 got[k].p.v.site, .int .i64 got[k].p.v.val, .int .i64 got[k].p.v.client, .int .i64 got[k].p.v.call, .slice got[k].a got[k].p.v.deps.length got[k].c] 114))
        obtain ⟨e0, e1, e2, e3, e4, e5, e6, e7, e8, ef, el⟩ := BE.nine
        go_wp2
        go_roundw
        case rel => exact ⟨k + 1, O, by omega, by go_num, HN.out, HOK.out, own, GE⟩
        case measure => simp [intOf]; omega
      | true =>
        have HN : Hid (putF (joinF O got[k].p.v.deps) (got[k].p.v.key, got[k].p.v.time, got[k].p.v.site) = ((ps got).take (k + 1)).foldl stepI ctx) := by show _ = _; rw [HT.out, ← HO.out]; unfold stepI; rw [if_pos hy]; rfl
        have hdk := hgk.dp
        have hj := joinF_ok HOK.out (okFrom_ok hdk)
        have HM : Hid (depsOkB (putF (joinF O got[k].p.v.deps) (got[k].p.v.key, got[k].p.v.time, got[k].p.v.site)) = true) := putF_ok hj (hgk.dk hy)
        have hlj := depsOk_len hj
        have HJ := Lib.hid hj
        have HD := Lib.hid hdk
        clear hy hgk hj hdk
        have BE := Blk.new wr #[.int .i64 got[k].p.key, .bool true, .int .i64 got[k].p.v.key, .int .i64 got[k].p.v.time, .int .i64 got[k].p.v.site, .int .i64 got[k].p.v.val, .int .i64 got[k].p.v.client, .int .i64 got[k].p.v.call, .slice got[k].a got[k].p.v.deps.length got[k].c] 114
        have hbx := below_box wr (.cells #[.int .i64 got[k].p.key, .bool true, .int .i64 got[k].p.v.key, .int .i64 got[k].p.v.time, .int .i64 got[k].p.v.site, .int .i64 got[k].p.v.val, .int .i64 got[k].p.v.client, .int .i64 got[k].p.v.call, .slice got[k].a got[k].p.v.deps.length got[k].c] 114)
        obtain ⟨e0, e1, e2, e3, e4, e5, e6, e7, e8, ef, el⟩ := BE.nine
        have hbd := (Below.refl (wr.alloc (.cells #[.int .i64 got[k].p.key, .bool true, .int .i64 got[k].p.v.key, .int .i64 got[k].p.v.time, .int .i64 got[k].p.v.site, .int .i64 got[k].p.v.val, .int .i64 got[k].p.v.client, .int .i64 got[k].p.v.call, .slice got[k].a got[k].p.v.deps.length got[k].c] 114)).heap.size (wr.alloc (.cells #[.int .i64 got[k].p.key, .bool true, .int .i64 got[k].p.v.key, .int .i64 got[k].p.v.time, .int .i64 got[k].p.v.site, .int .i64 got[k].p.v.val, .int .i64 got[k].p.v.client, .int .i64 got[k].p.v.call, .slice got[k].a got[k].p.v.deps.length got[k].c] 114))).drew
        have GE := below_after (below_alloc hBw (.cells #[.int .i64 got[k].p.key, .bool true, .int .i64 got[k].p.v.key, .int .i64 got[k].p.v.time, .int .i64 got[k].p.v.site, .int .i64 got[k].p.v.val, .int .i64 got[k].p.v.client, .int .i64 got[k].p.v.call, .slice got[k].a got[k].p.v.deps.length got[k].c] 114)) hbd
        have rd := (rd.below hbx).below hbd
        have hr := (hr.below hbx).below hbd
        have BD := BE.below hbd BE.lt
        obtain ⟨z0, z1, z2, z3, z4, z5, z6, z7, z8, zf, zl⟩ := BD.nine
        go_wp2_with fail
        go_region_with (first | (go_at_call 81; (with_reducible refine (dep_impl _ _ _ _ _ _ _ _ _ _).mono ?_); rintro e w3 ⟨rfl, hb3⟩; have GE := below_after GE hb3; have rd := rd.below hb3; have hr := hr.below hb3; (try have rd2 := rd2.below hb3); have BD := BD.below hb3 BD.lt; obtain ⟨u0, u1, u2, u3, u4, u5, u6, u7, u8, uf, ul⟩ := BD.nine) | (go_at_call 134; (with_reducible refine (join_impl O got[k].p.v.deps p got[k].a c got[k].c _ rd hr HOK.out HD.out).mono ?_); rintro e w2 ⟨v2, rfl, own2, hb2⟩; obtain ⟨p2, c2, rfl, rd2⟩ := Reads.of_owns own2; have GE := below_after GE hb2; have rd := rd.below hb2; have hr := hr.below hb2; have BD := BD.below hb2 BD.lt; obtain ⟨v0, v1, v2, v3, v4, v5, v6, v7, v8, vf, vl⟩ := BD.nine) | (go_at_call 133; (with_reducible refine (put3 (joinF O got[k].p.v.deps) _ _ _ p2 c2 _ rd2 (by omega) HJ.out).mono ?_); rintro e w4 ⟨v4, rfl, own4, hb4⟩; have own5 := own_base own4 GE.size; have GF := below_after GE hb4))
        all_goals
          go_wp2
          go_roundw
          case rel => exact ⟨k + 1, _, by omega, by go_num, HN.out, HM.out, own5, GF⟩
          case measure => simp [intOf]; omega
    · obtain rfl : k = got.length := by omega
      have HE : Hid (sawI ⟨client, num, kind, keys, val, ctx, beg, fin, ovr, time, site, got, needs, ka, kc, xa, xc, ga, gc, na, nc⟩ = O) := by show _ = _; rw [HR.out, HO.out, ← ps_len got, List.take_length]
      go_wp2
      go_ret
      exact ⟨_, rfl, by rw [HE.out]; exact own, hBw⟩

end Go.Proofs.Ythciikogogkfcaa
