/- WordOk is the reference's. Of every input that the given statement lets in. -/
import Derived.Test.YtiigdbmfpibbdaaWordY
import Derived.Test.YtiigdbmfpibbdaaWordW2
import Derived.Deep.RegionHeld3
namespace Go.Proofs.Ytiigdbmfpibbdaa.fnExactWordOk
open Go.ChangeShapes Go.WideShapes Go.ChangeAt Go.RowKit
set_option linter.unusedVariables false
def mkW (x : Mw) (A B : List Mv) (p1 pa pb p2 : Option Addr) (c1 ca cb c2 : Nat) : Mw := { x with da := p1, dc := c1, vers := A, va := pa, vc := ca, waits := B, wa := pb, wc := cb, oa := p2, oc := c2 }
theorem mk_ok {x : Mw} {A B : List Mv} {p1 pa pb p2 : Option Addr} {c1 ca cb c2 : Nat} (hA : vs A = vs x.vers) (hB : vs B = vs x.waits) : wordOkB (mkW x A B p1 pa pb p2 c1 ca cb c2) = wordOkB x := by
  simp only [wordOkB, mkW, hA, hB]
theorem few_as {l m : List Mv} (h : vs m = vs l) (hf : Few l) : Few m := few_vs h hf
theorem mk_few {x : Mw} {A B : List Mv} {p1 pa pb p2 : Option Addr} {c1 ca cb c2 : Nat} (hA : vs A = vs x.vers) (hB : vs B = vs x.waits) (hf : FewW x) : FewW (mkW x A B p1 pa pb p2 c1 ca cb c2) :=
  ⟨hf.dp, few_as hA hf.vr, few_as hB hf.wt, hf.ow⟩
set_option maxRecDepth 100000 in
set_option maxHeartbeats 8000000 in
theorem walk (x0 : Mw) (w : World) (w0 : WordIn w x0) (u0 : I64 x0.frm) (t0 : I64 x0.to) :
    Calls Try.prog 12 #[.agg #[.int .i64 x0.kind, .int .i64 x0.frm, .int .i64 x0.to, .int .i64 x0.call, .int .i64 x0.key, .int .i64 x0.time, .int .i64 x0.site, .int .i64 x0.val, .bool x0.yes, .slice x0.da x0.deps.length x0.dc, .int .i64 x0.slot, .int .i64 x0.epoch, .slice x0.va x0.vers.length x0.vc, .slice x0.wa x0.waits.length x0.wc, .slice x0.oa x0.owes.length x0.oc]] w fun e w' => e = .returned (.bool true) ∧ Below w.heap.size w w' := by
  have hw0 := w0
  clear w0
  have BX := Blk.new w #[.int .i64 x0.kind, .int .i64 x0.frm, .int .i64 x0.to, .int .i64 x0.call, .int .i64 x0.key, .int .i64 x0.time, .int .i64 x0.site, .int .i64 x0.val, .bool x0.yes, .slice x0.da x0.deps.length x0.dc, .int .i64 x0.slot, .int .i64 x0.epoch, .slice x0.va x0.vers.length x0.vc, .slice x0.wa x0.waits.length x0.wc, .slice x0.oa x0.owes.length x0.oc] 74
  have G0 := below_box w (.cells #[.int .i64 x0.kind, .int .i64 x0.frm, .int .i64 x0.to, .int .i64 x0.call, .int .i64 x0.key, .int .i64 x0.time, .int .i64 x0.site, .int .i64 x0.val, .bool x0.yes, .slice x0.da x0.deps.length x0.dc, .int .i64 x0.slot, .int .i64 x0.epoch, .slice x0.va x0.vers.length x0.vc, .slice x0.wa x0.waits.length x0.wc, .slice x0.oa x0.owes.length x0.oc] 74)
  obtain ⟨cx0, cx1, cx2, cx3, cx4, cx5, cx6, cx7, cx8, cx9, cx10, cx11, cx12, cx13, cx14, cxf, cxl⟩ := BX.word
  go_enter Try.func12, Try.ntmps12
  go_wp2_with fail
  refine (szWord_laws x0 1048576 _ (hw0.below G0) (by omega) (by omega)).mono ?_
  rintro e w1 ⟨r, rfl, hr, hb1⟩
  have BX := BX.below hb1 BX.lt
  have G0 := below_after G0 hb1
  clear cx0 cx1 cx2 cx3 cx4 cx5 cx6 cx7 cx8 cx9 cx10 cx11 cx12 cx13 cx14 cxf cxl
  obtain ⟨cy0, cy1, cy2, cy3, cy4, cy5, cy6, cy7, cy8, cy9, cy10, cy11, cy12, cy13, cy14, cyf, cyl⟩ := BX.word
  by_cases hneg : r < 0
  · go_wp2
    go_ret
    exact ⟨rfl, G0⟩
  have hr0 : 0 ≤ r := by omega
  obtain ⟨s1, s2, s3, s4⟩ := hr hr0
  have hf : FewW x0 := ⟨by omega, few_of s2, few_of s3, by omega⟩
  clear hr hneg s1 s2 s3 s4
  obtain ⟨b, hbv⟩ : ∃ b, wordOkB x0 = b := ⟨_, rfl⟩
  have hbb : (b != b) = false := by cases b <;> rfl
  have HB := Lib.hid hbv
  clear hbv
  go_wp2_with fail
  refine (toWord_laws x0 _ (hw0.below G0) hf).mono ?_
  rintro e w2 ⟨A2, B2, p12, pa2, pb2, p22, c12, ca2, cb2, c22, rfl, hA2, hB2, d2, a2, b2, o2, hb2⟩
  have BX := BX.below hb2 BX.lt
  have G0 := below_after G0 hb2
  have hin2 : WordIn w2 (mkW x0 A2 B2 p12 pa2 pb2 p22 c12 ca2 cb2 c22) := ⟨d2, a2, b2, o2⟩
  have hk2 := mk_ok (p1 := p12) (pa := pa2) (pb := pb2) (p2 := p22) (c1 := c12) (ca := ca2) (cb := cb2) (c2 := c22) hA2 hB2
  go_wp2_with fail
  refine (bool_is (hk2.trans HB.out) (WordOk_spec (mkW x0 A2 B2 p12 pa2 pb2 p22 c12 ca2 cb2 c22) _ hin2 (mk_few hA2 hB2 hf))).mono ?_
  rintro e w3 ⟨rfl, hb3⟩
  clear hin2 hk2 d2 a2 b2 o2
  have BX := BX.below hb3 BX.lt
  have G0 := below_after G0 hb3
  clear cy0 cy1 cy2 cy3 cy4 cy5 cy6 cy7 cy8 cy9 cy10 cy11 cy12 cy13 cy14 cyf cyl
  obtain ⟨cg0, cg1, cg2, cg3, cg4, cg5, cg6, cg7, cg8, cg9, cg10, cg11, cg12, cg13, cg14, cgf, cgl⟩ := BX.word
  go_wp2_with fail
  refine (toWord_laws x0 _ (hw0.below G0) hf).mono ?_
  rintro e w4 ⟨A4, B4, p14, pa4, pb4, p24, c14, ca4, cb4, c24, rfl, hA4, hB4, d4, a4, b4, o4, hb4⟩
  have BX := BX.below hb4 BX.lt
  have G0 := below_after G0 hb4
  have BT := Blk.new w4 #[.int .i64 x0.kind, .int .i64 x0.frm, .int .i64 x0.to, .int .i64 x0.call, .int .i64 x0.key, .int .i64 x0.time, .int .i64 x0.site, .int .i64 x0.val, .bool x0.yes, .slice p14 x0.deps.length c14, .int .i64 x0.slot, .int .i64 x0.epoch, .slice pa4 A4.length ca4, .slice pb4 B4.length cb4, .slice p24 x0.owes.length c24] 78
  have hbx := below_box w4 (.cells #[.int .i64 x0.kind, .int .i64 x0.frm, .int .i64 x0.to, .int .i64 x0.call, .int .i64 x0.key, .int .i64 x0.time, .int .i64 x0.site, .int .i64 x0.val, .bool x0.yes, .slice p14 x0.deps.length c14, .int .i64 x0.slot, .int .i64 x0.epoch, .slice pa4 A4.length ca4, .slice pb4 B4.length cb4, .slice p24 x0.owes.length c24] 78)
  have BX := BX.below hbx BX.lt
  have G0 := below_after G0 hbx
  have d4 := d4.below hbx
  have a4 := a4.below hbx
  have b4 := b4.below hbx
  have o4 := o4.below hbx
  clear cg0 cg1 cg2 cg3 cg4 cg5 cg6 cg7 cg8 cg9 cg10 cg11 cg12 cg13 cg14 cgf cgl
  obtain ⟨ch0, ch1, ch2, ch3, ch4, ch5, ch6, ch7, ch8, ch9, ch10, ch11, ch12, ch13, ch14, chf, chl⟩ := BT.word
  obtain ⟨cz0, cz1, cz2, cz3, cz4, cz5, cz6, cz7, cz8, cz9, cz10, cz11, cz12, cz13, cz14, czf, czl⟩ := BX.word
  have hin4 : WordIn _ (mkW x0 A4 B4 p14 pa4 pb4 p24 c14 ca4 cb4 c24) := ⟨d4, a4, b4, o4⟩
  have hk4 := mk_ok (p1 := p14) (pa := pa4) (pb := pb4) (p2 := p24) (c1 := c14) (ca := ca4) (cb := cb4) (c2 := c24) hA4 hB4
  go_wp2_with fail
  refine (bool_is (hk4.trans HB.out) (WordOk_impl (mkW x0 A4 B4 p14 pa4 pb4 p24 c14 ca4 cb4 c24) _ hin4 (mk_few hA4 hB4 hf) u0 t0)).mono ?_
  rintro e w5 ⟨rfl, hb5⟩
  clear hin4 hk4
  have BX := BX.below hb5 BX.lt
  have G0 := below_after G0 hb5
  have d4 := d4.below hb5
  have a4 := a4.below hb5
  have b4 := b4.below hb5
  have o4 := o4.below hb5
  have BT := BT.below hb5 BT.lt
  have hbd := (Below.refl w5.heap.size w5).drew
  have BX := BX.below hbd BX.lt
  have G0 := below_after G0 hbd
  have d4 := d4.below hbd
  have a4 := a4.below hbd
  have b4 := b4.below hbd
  have o4 := o4.below hbd
  have BT := BT.below hbd BT.lt
  have HA4 := Lib.hid hA4
  have HB4 := Lib.hid hB4
  clear hA2 hB2 hA4 hB4
  clear ch0 ch1 ch2 ch3 ch4 ch5 ch6 ch7 ch8 ch9 ch10 ch11 ch12 ch13 ch14 chf chl
  clear cz0 cz1 cz2 cz3 cz4 cz5 cz6 cz7 cz8 cz9 cz10 cz11 cz12 cz13 cz14 czf czl
  obtain ⟨ci0, ci1, ci2, ci3, ci4, ci5, ci6, ci7, ci8, ci9, ci10, ci11, ci12, ci13, ci14, cif, cil⟩ := BX.word
  obtain ⟨cj0, cj1, cj2, cj3, cj4, cj5, cj6, cj7, cj8, cj9, cj10, cj11, cj12, cj13, cj14, cjf, cjl⟩ := BT.word
  go_wp2_with fail
  go_region_with (first | (go_at_call 56; (with_reducible refine (toWord_laws x0 w5.drew (hw0.below G0) hf).mono ?_); rintro e w6 ⟨A6, B6, p16, pa6, pb6, p26, c16, ca6, cb6, c26, rfl, hA6, hB6, d6, a6, b6, o6, hb6⟩; have HA6 := Lib.hid hA6; have HB6 := Lib.hid hB6; clear hA6 hB6; have BX := BX.below hb6 BX.lt; have G0 := below_after G0 hb6; have d4 := d4.below hb6; have a4 := a4.below hb6; have b4 := b4.below hb6; have o4 := o4.below hb6; have BT := BT.below hb6 BT.lt; obtain ⟨ck0, ck1, ck2, ck3, ck4, ck5, ck6, ck7, ck8, ck9, ck10, ck11, ck12, ck13, ck14, ckf, ckl⟩ := BT.word) | (go_at_call 58; (with_reducible refine (eqWord_same x0 A4 B4 A6 B6 p14 pa4 pb4 p24 p16 pa6 pb6 p26 c14 ca4 cb4 c24 c16 ca6 cb6 c26 w6 d4 d6 a4 a6 (HA6.out.trans HA4.out.symm) b4 b6 (HB6.out.trans HB4.out.symm) o4 o6).mono ?_); rintro e w7 ⟨rfl, hb7⟩; have G0 := below_after G0 hb7))
  all_goals (go_wp2; go_ret; exact ⟨rfl, G0⟩)

set_option maxRecDepth 100000 in
theorem lifted (os : Os) (started : os.Started) (H : Type) (enc : TypeId × Value → H) :
    ReturnsInHanded {} Try.checked os 12 .any (Rows.fnExactWordOkSpec.pre6 enc Try.prog Try.f12 Rows.fnExactWordOkRow.domain false) (Rows.fnExactWordOkSpec.post enc Try.prog Try.f12 false true false false) := by
  refine returnsInHanded_of_change (C := Try.checked) own started (by kernel_rfl) Try.func12
    (ChangeSpec.witness6 (enc := enc) (C := Try.checked) false ⟨#[], #[.agg #[.int .i64 0, .int .i64 0, .int .i64 0, .int .i64 0, .int .i64 0, .int .i64 0, .int .i64 0, .int .i64 0, .bool false, .slice none 0 0, .int .i64 0, .int .i64 0, .slice none 0 0, .slice none 0 0, .slice none 0 0]], []⟩ 8 (by kernel_rfl) (by kernel_rfl) (by kernel_rfl) (by kernel_rfl)) ?_
  intro W base args ds gs before hval0 hW hcnd _
  have hval : ∀ (j : Nat) t v, Try.f12.params[j]? = some t → args[j]? = some v → Value.okWide Try.prog W .any base t v := hval0
  have hW' := hW
  obtain ⟨p, q, hA0, hV, rfl, hfz, hnd⟩ := hW
  have hA : DataW.TrodAll enc Try.prog W 0 (fun _ => true) true Try.f12.params.toList args.toList ds p := hA0
  rw [Try.params12] at hA hval
  obtain ⟨v0, vs0, d0, ds0, p0, q0, hargs, rfl, rfl, h0, r0⟩ := trodAll_cons hA
  obtain ⟨rfl, rfl, rfl⟩ := trodAll_nil r0
  obtain rfl : args = #[v0] := by cases args; simp_all
  obtain ⟨rfl, rfl⟩ := trodVars_none hV
  have lt0 : ∀ x ∈ p0, x.block < W.heap.size := by obtain ⟨m, hm⟩ := h0; exact DataW.trod_lt m _ _ _ hm
  obtain ⟨_, _, _, _, _, _, _, _, _, _, _, _, _, _, _, _, _, _, _, _, _, _, _, _, _, _, _, _, _, _, _, _, _, _, _, hW0⟩ := isWordL
  obtain ⟨x0, rfl, w0, u0, t0⟩ := word_of hW0 (hval 0 74 v0 rfl rfl) h0
  clear hA0 hval0
  refine (walk x0 W w0 u0 t0).mono fun e W' ⟨he, bel⟩ => ?_
  subst he
  exact ⟨_, rfl, _, _, _, [], _, [], hW', trodAll_mk1 (shut_bool Try.underlying4 _), (trodAll_cons_mk (Below.trod laidOut (by kernel_rfl) (of_decide_eq_true (by kernel_rfl)) h0 bel lt0) trodAll_mk0), rfl, bel.frame _, fun h => by cases h⟩

theorem over_row : Rows.fnExactWordOkRow.holds Try.pinned (OpenSpec.ofChange Rows.fnExactWordOkSpec) :=
  OpenClaim.holds_of_wide 12 Try.f12 rfl rfl rfl rfl rfl rfl rfl ⟨rfl, rfl, rfl, rfl, rfl⟩ rfl rfl rfl rfl rfl (by kernel_rfl) Try.func12 (by kernel_rfl)
    (of_decide_eq_true (by kernel_rfl)) (by unfold Func.isWrapper; first | (rw [if_pos (by decide +kernel)]; kernel_rfl) | (rw [if_neg (by decide +kernel)]; exact ⟨rfl, rfl⟩))
    (fun os started H enc _ => lifted os started H enc)

/-- The statement. -/
theorem proved : Rows.FnExactWordOkSaid := over_row
end Go.Proofs.Ytiigdbmfpibbdaa.fnExactWordOk
