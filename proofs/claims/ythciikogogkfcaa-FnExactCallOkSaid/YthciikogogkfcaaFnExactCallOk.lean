/- CallOk is the reference's. Of every input that the given statement lets in. -/
import Derived.Test.YthciikogogkfcaaCallW8
import Derived.Test.YthciikogogkfcaaCallW4
import Derived.Test.YthciikogogkfcaaCallX
import Derived.Test.YthciikogogkfcaaOpenC
import Derived.Deep.RegionHeld3
namespace Go.Proofs.Ythciikogogkfcaa.fnExactCallOk
open Go.ChangeShapes Go.WideShapes Go.ChangeAt Go.RowKit
set_option linter.unusedVariables false
theorem mkc_ok {x : Mc} {A : List An} {p0 p1 pa p2 : Option Addr} {c0 c1 ca c2 : Nat} (t : Int) (hA : ps A = ps x.got) : callOkB (mkC x A p0 p1 pa p2 c0 c1 ca c2) t = callOkB x t := by
  have hl : A.length = x.got.length := by rw [← ps_len A, hA, ps_len]
  simp only [callOkB, kindB, finB, noStamp, mkC, hA, hl]; rfl
theorem mkc_few {x : Mc} {A : List An} {p0 p1 pa p2 : Option Addr} {c0 c1 ca c2 : Nat} (hA : ps A = ps x.got) (hf : FewC x) : FewC (mkC x A p0 p1 pa p2 c0 c1 ca c2) :=
  ⟨hf.ks, hf.cx, fewA_ps hA hf.gt, hf.nd⟩
set_option maxRecDepth 100000 in
set_option maxHeartbeats 8000000 in
theorem walk (x0 : Mc) (n1 : Int) (w : World) (w0 : CallIn w x0) (w1 : I64 n1) :
    Calls Try.prog 8 #[.agg #[.int .i64 x0.client, .int .i64 x0.num, .int .i64 x0.kind, .slice x0.ka x0.keys.length x0.kc, .int .i64 x0.val, .slice x0.xa x0.ctx.length x0.xc, .int .i64 x0.beg, .int .i64 x0.fin, .bool x0.over, .int .i64 x0.time, .int .i64 x0.site, .slice x0.ga x0.got.length x0.gc, .slice x0.na x0.needs.length x0.nc], .int .i64 n1] w fun e w' => e = .returned (.bool true) ∧ Below w.heap.size w w' := by
  have hw0 := w0
  clear w0
  have BX := Blk.new w #[.int .i64 x0.client, .int .i64 x0.num, .int .i64 x0.kind, .slice x0.ka x0.keys.length x0.kc, .int .i64 x0.val, .slice x0.xa x0.ctx.length x0.xc, .int .i64 x0.beg, .int .i64 x0.fin, .bool x0.over, .int .i64 x0.time, .int .i64 x0.site, .slice x0.ga x0.got.length x0.gc, .slice x0.na x0.needs.length x0.nc] 68
  have G0 := below_box w (.cells #[.int .i64 x0.client, .int .i64 x0.num, .int .i64 x0.kind, .slice x0.ka x0.keys.length x0.kc, .int .i64 x0.val, .slice x0.xa x0.ctx.length x0.xc, .int .i64 x0.beg, .int .i64 x0.fin, .bool x0.over, .int .i64 x0.time, .int .i64 x0.site, .slice x0.ga x0.got.length x0.gc, .slice x0.na x0.needs.length x0.nc] 68)
  obtain ⟨cx0, cx1, cx2, cx3, cx4, cx5, cx6, cx7, cx8, cx9, cx10, cx11, cx12, cxf, cxl⟩ := BX.call
  go_enter Try.func8, Try.ntmps8
  go_wp2_with fail
  refine (szCall_laws x0 1048576 _ (hw0.below G0) (by omega) (by omega)).mono ?_
  rintro e w1 ⟨r, rfl, hr, hb1⟩
  have BX := BX.below hb1 BX.lt
  have G0 := below_after G0 hb1
  clear cx0 cx1 cx2 cx3 cx4 cx5 cx6 cx7 cx8 cx9 cx10 cx11 cx12 cxf cxl
  obtain ⟨cy0, cy1, cy2, cy3, cy4, cy5, cy6, cy7, cy8, cy9, cy10, cy11, cy12, cyf, cyl⟩ := BX.call
  by_cases hneg : r < 0
  · go_wp2
    go_ret
    exact ⟨rfl, G0⟩
  have hr0 : 0 ≤ r := by omega
  obtain ⟨s1, s2, s3, s4⟩ := hr hr0
  have hf : FewC x0 := ⟨by omega, by omega, fewA_of s3, by omega⟩
  clear hr hneg s1 s2 s3 s4
  obtain ⟨b, hbv⟩ : ∃ b, callOkB x0 n1 = b := ⟨_, rfl⟩
  have hbb : (b != b) = false := by cases b <;> rfl
  have HB := Lib.hid hbv
  clear hbv
  go_wp2_with fail
  refine (toCall_laws x0 _ (hw0.below G0) hf).mono ?_
  rintro e w2 ⟨A2, p02, p12, pa2, p22, c02, c12, ca2, c22, rfl, hA2, hc2, hb2⟩
  have BX := BX.below hb2 BX.lt
  have G0 := below_after G0 hb2
  have hk2 := mkc_ok (p0 := p02) (p1 := p12) (pa := pa2) (p2 := p22) (c0 := c02) (c1 := c12) (ca := ca2) (c2 := c22) n1 hA2
  go_wp2_with fail
  refine (bool_is (hk2.trans HB.out) (CallOk_spec (mkC x0 A2 p02 p12 pa2 p22 c02 c12 ca2 c22) n1 _ hc2.in_ (mkc_few hA2 hf))).mono ?_
  rintro e w3 ⟨rfl, hb3⟩
  clear hk2 hc2
  have BX := BX.below hb3 BX.lt
  have G0 := below_after G0 hb3
  clear cy0 cy1 cy2 cy3 cy4 cy5 cy6 cy7 cy8 cy9 cy10 cy11 cy12 cyf cyl
  obtain ⟨cg0, cg1, cg2, cg3, cg4, cg5, cg6, cg7, cg8, cg9, cg10, cg11, cg12, cgf, cgl⟩ := BX.call
  go_wp2_with fail
  refine (toCall_laws x0 _ (hw0.below G0) hf).mono ?_
  rintro e w4 ⟨A4, p04, p14, pa4, p24, c04, c14, ca4, c24, rfl, hA4, hc4, hb4⟩
  have BX := BX.below hb4 BX.lt
  have G0 := below_after G0 hb4
  have BT := Blk.new w4 #[.int .i64 x0.client, .int .i64 x0.num, .int .i64 x0.kind, .slice p04 x0.keys.length c04, .int .i64 x0.val, .slice p14 x0.ctx.length c14, .int .i64 x0.beg, .int .i64 x0.fin, .bool x0.over, .int .i64 x0.time, .int .i64 x0.site, .slice pa4 A4.length ca4, .slice p24 x0.needs.length c24] 73
  have hbx := below_box w4 (.cells #[.int .i64 x0.client, .int .i64 x0.num, .int .i64 x0.kind, .slice p04 x0.keys.length c04, .int .i64 x0.val, .slice p14 x0.ctx.length c14, .int .i64 x0.beg, .int .i64 x0.fin, .bool x0.over, .int .i64 x0.time, .int .i64 x0.site, .slice pa4 A4.length ca4, .slice p24 x0.needs.length c24] 73)
  have BX := BX.below hbx BX.lt
  have G0 := below_after G0 hbx
  have hc4 := hc4.below hbx
  clear cg0 cg1 cg2 cg3 cg4 cg5 cg6 cg7 cg8 cg9 cg10 cg11 cg12 cgf cgl
  obtain ⟨ch0, ch1, ch2, ch3, ch4, ch5, ch6, ch7, ch8, ch9, ch10, ch11, ch12, chf, chl⟩ := BT.call
  obtain ⟨cz0, cz1, cz2, cz3, cz4, cz5, cz6, cz7, cz8, cz9, cz10, cz11, cz12, czf, czl⟩ := BX.call
  have hk4 := mkc_ok (p0 := p04) (p1 := p14) (pa := pa4) (p2 := p24) (c0 := c04) (c1 := c14) (ca := ca4) (c2 := c24) n1 hA4
  go_wp2_with fail
  refine (bool_is (hk4.trans HB.out) (CallOk_impl (mkC x0 A4 p04 p14 pa4 p24 c04 c14 ca4 c24) n1 _ hc4.in_ (mkc_few hA4 hf))).mono ?_
  rintro e w5 ⟨rfl, hb5⟩
  clear hk4
  have BX := BX.below hb5 BX.lt
  have G0 := below_after G0 hb5
  have hc4 := hc4.below hb5
  have BT := BT.below hb5 BT.lt
  have hbd := (Below.refl w5.heap.size w5).drew
  have BX := BX.below hbd BX.lt
  have G0 := below_after G0 hbd
  have hc4 := hc4.below hbd
  have BT := BT.below hbd BT.lt
  have HA4 := Lib.hid hA4
  clear hA2 hA4
  clear ch0 ch1 ch2 ch3 ch4 ch5 ch6 ch7 ch8 ch9 ch10 ch11 ch12 chf chl
  clear cz0 cz1 cz2 cz3 cz4 cz5 cz6 cz7 cz8 cz9 cz10 cz11 cz12 czf czl
  obtain ⟨ci0, ci1, ci2, ci3, ci4, ci5, ci6, ci7, ci8, ci9, ci10, ci11, ci12, cif, cil⟩ := BX.call
  obtain ⟨cj0, cj1, cj2, cj3, cj4, cj5, cj6, cj7, cj8, cj9, cj10, cj11, cj12, cjf, cjl⟩ := BT.call
  go_wp2_with fail
  go_region_with (first | (go_at_call 36; (with_reducible refine (toCall_laws x0 w5.drew (hw0.below G0) hf).mono ?_); rintro e w6 ⟨A6, p06, p16, pa6, p26, c06, c16, ca6, c26, rfl, hA6, hc6, hb6⟩; have HA6 := Lib.hid hA6; clear hA6; have BX := BX.below hb6 BX.lt; have G0 := below_after G0 hb6; have hc4 := hc4.below hb6; have BT := BT.below hb6 BT.lt; obtain ⟨ck0, ck1, ck2, ck3, ck4, ck5, ck6, ck7, ck8, ck9, ck10, ck11, ck12, ckf, ckl⟩ := BT.call) | (go_at_call 38; have ks4 : Reads w6 p04 x0.keys.length c04 (intsC x0.keys) := hc4.in_.ks; have kx4 : Reads w6 p14 x0.ctx.length c14 (dpsC x0.ctx) := hc4.in_.cx; have kg4 : Ans w6 pa4 ca4 A4 := hc4.in_.gt; have kn4 : Reads w6 p24 x0.needs.length c24 (dpsC x0.needs) := hc4.in_.nd; have ks6 : Reads w6 p06 x0.keys.length c06 (intsC x0.keys) := hc6.in_.ks; have kx6 : Reads w6 p16 x0.ctx.length c16 (dpsC x0.ctx) := hc6.in_.cx; have kg6 : Ans w6 pa6 ca6 A6 := hc6.in_.gt; have kn6 : Reads w6 p26 x0.needs.length c26 (dpsC x0.needs) := hc6.in_.nd; (with_reducible refine (eqCallM_same x0 A4 A6 p04 p14 pa4 p24 p06 p16 pa6 p26 c04 c14 ca4 c24 c06 c16 ca6 c26 w6 ks4 ks6 kx4 kx6 kg4 kg6 (HA6.out.trans HA4.out.symm) kn4 kn6).mono ?_); rintro e w7 ⟨rfl, hb7⟩; have G0 := below_after G0 hb7))
  all_goals (go_wp2; go_ret; exact ⟨rfl, G0⟩)

set_option maxRecDepth 100000 in
theorem lifted (os : Os) (started : os.Started) (H : Type) (enc : TypeId × Value → H) :
    ReturnsInHanded {} Try.checked os 8 .any (Rows.fnExactCallOkSpec.pre6 enc Try.prog Try.f8 Rows.fnExactCallOkRow.domain false) (Rows.fnExactCallOkSpec.post enc Try.prog Try.f8 false true false false) := by
  refine returnsInHanded_of_change (C := Try.checked) own started (by kernel_rfl) Try.func8
    (ChangeSpec.witness6 (enc := enc) (C := Try.checked) false ⟨#[], #[.agg #[.int .i64 0, .int .i64 0, .int .i64 0, .slice none 0 0, .int .i64 0, .slice none 0 0, .int .i64 0, .int .i64 0, .bool false, .int .i64 0, .int .i64 0, .slice none 0 0, .slice none 0 0], .int .i64 0], []⟩ 8 (by kernel_rfl) (by kernel_rfl) (by kernel_rfl) (by kernel_rfl)) ?_
  intro W base args ds gs before hval0 hW hcnd _
  have hval : ∀ (j : Nat) t v, Try.f8.params[j]? = some t → args[j]? = some v → Value.okWide Try.prog W .any base t v := hval0
  have hW' := hW
  obtain ⟨p, q, hA0, hV, rfl, hfz, hnd⟩ := hW
  have hA : DataW.TrodAll enc Try.prog W 0 (fun _ => true) true Try.f8.params.toList args.toList ds p := hA0
  rw [Try.params8] at hA hval
  obtain ⟨v0, vs0, d0, ds0, p0, q0, hargs, rfl, rfl, h0, r0⟩ := trodAll_cons hA
  obtain ⟨v1, vs1, d1, ds1, p1, q1, rfl, rfl, rfl, h1, r1⟩ := trodAll_cons r0
  obtain ⟨rfl, rfl, rfl⟩ := trodAll_nil r1
  obtain rfl : args = #[v0, v1] := by cases args; simp_all
  obtain ⟨rfl, rfl⟩ := trodVars_none hV
  have lt0 : ∀ x ∈ p0, x.block < W.heap.size := by obtain ⟨m, hm⟩ := h0; exact DataW.trod_lt m _ _ _ hm
  obtain ⟨_, _, _, _, _, _, _, _, _, _, _, _, _, _, _, _, _, _, _, _, _, _, _, _, _, _, _, _, _, _, _, _, _, _, _, _, _, hC0⟩ := isCallL
  obtain ⟨x0, rfl, w0⟩ := call_of hC0 (hval 0 68 v0 rfl rfl) h0
  have lt1 : ∀ x ∈ p1, x.block < W.heap.size := by obtain ⟨m, hm⟩ := h1; exact DataW.trod_lt m _ _ _ hm
  obtain ⟨n1, rfl, w1⟩ := int_of Try.underlying3 (hval 1 3 v1 rfl rfl) h1
  clear hA0 hval0
  refine (walk x0 n1 W w0 w1).mono fun e W' ⟨he, bel⟩ => ?_
  subst he
  exact ⟨_, rfl, _, _, _, [], _, [], hW', trodAll_mk1 (shut_bool Try.underlying4 _), (trodAll_cons_mk (Below.trod laidOut (by kernel_rfl) (of_decide_eq_true (by kernel_rfl)) h0 bel lt0) (trodAll_cons_mk (Below.trod laidOut (by kernel_rfl) (of_decide_eq_true (by kernel_rfl)) h1 bel lt1) trodAll_mk0)), rfl, bel.frame _, fun h => by cases h⟩

theorem over_row : Rows.fnExactCallOkRow.holds Try.pinned (OpenSpec.ofChange Rows.fnExactCallOkSpec) :=
  OpenClaim.holds_of_wide 8 Try.f8 rfl rfl rfl rfl rfl rfl rfl ⟨rfl, rfl, rfl, rfl, rfl⟩ rfl rfl rfl rfl rfl (by kernel_rfl) Try.func8 (by kernel_rfl)
    (of_decide_eq_true (by kernel_rfl)) (by unfold Func.isWrapper; first | (rw [if_pos (by decide +kernel)]; kernel_rfl) | (rw [if_neg (by decide +kernel)]; exact ⟨rfl, rfl⟩))
    (fun os started H enc _ => lifted os started H enc)

/-- The statement. -/
theorem proved : Rows.FnExactCallOkSaid := over_row
end Go.Proofs.Ythciikogogkfcaa.fnExactCallOk
