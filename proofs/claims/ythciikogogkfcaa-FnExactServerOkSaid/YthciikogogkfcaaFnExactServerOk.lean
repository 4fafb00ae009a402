/- ServerOk is the reference's. Of every input that the given statement lets in. -/
import Derived.Test.YthciikogogkfcaaServW6
import Derived.Test.YthciikogogkfcaaServX
import Derived.Deep.RegionHeld3
namespace Go.Proofs.Ythciikogogkfcaa.fnExactServerOk
open Go.ChangeShapes Go.WideShapes Go.ChangeAt Go.RowKit
set_option linter.unusedVariables false
def mkS (x : Ms) (A B : List Mv) (p0 pa pb p1 p2 : Option Addr) (c0 ca cb c1 c2 : Nat) : Ms := { x with sa := p0, sc := c0, vers := A, va := pa, vc := ca, waits := B, wa := pb, wc := cb, oa := p1, oc := c1, ka := p2, kc := c2 }
theorem mks_ok {x : Ms} {A B : List Mv} {p0 pa pb p1 p2 : Option Addr} {c0 ca cb c1 c2 : Nat} (hA : vs A = vs x.vers) (hB : vs B = vs x.waits) : serverOkB (mkS x A B p0 pa pb p1 p2 c0 ca cb c1 c2) = serverOkB x := by
  simp only [serverOkB, headB, mkS, hA, hB]; rfl
theorem mks_owns {x : Ms} {A B : List Mv} {p0 pa pb p1 p2 : Option Addr} {c0 ca cb c1 c2 : Nat} (key : Int) (hA : vs A = vs x.vers) (hB : vs B = vs x.waits) : serverOwnsB (mkS x A B p0 pa pb p1 p2 c0 ca cb c1 c2) key = serverOwnsB x key := by
  simp only [serverOwnsB, mks_ok hA hB]; rfl
theorem mks_few {x : Ms} {A B : List Mv} {p0 pa pb p1 p2 : Option Addr} {c0 ca cb c1 c2 : Nat} (hA : vs A = vs x.vers) (hB : vs B = vs x.waits) (hf : FewS x) : FewS (mkS x A B p0 pa pb p1 p2 c0 ca cb c1 c2) :=
  ⟨hf.sl, few_vs hA hf.vr, few_vs hB hf.wt, hf.ow, hf.kn⟩
set_option maxRecDepth 100000 in
set_option maxHeartbeats 8000000 in
theorem walk (x0 : Ms) (w : World) (w0 : ServIn w x0) :
    Calls Try.prog 6 #[.agg #[.int .i64 x0.site, .bool x0.up, .slice x0.sa x0.slots.length x0.sc, .slice x0.va x0.vers.length x0.vc, .slice x0.wa x0.waits.length x0.wc, .slice x0.oa x0.owes.length x0.oc, .slice x0.ka x0.knows.length x0.kc]] w fun e w' => e = .returned (.bool true) ∧ Below w.heap.size w w' := by
  have hw0 := w0
  clear w0
  have BX := Blk.new w #[.int .i64 x0.site, .bool x0.up, .slice x0.sa x0.slots.length x0.sc, .slice x0.va x0.vers.length x0.vc, .slice x0.wa x0.waits.length x0.wc, .slice x0.oa x0.owes.length x0.oc, .slice x0.ka x0.knows.length x0.kc] 54
  have G0 := below_box w (.cells #[.int .i64 x0.site, .bool x0.up, .slice x0.sa x0.slots.length x0.sc, .slice x0.va x0.vers.length x0.vc, .slice x0.wa x0.waits.length x0.wc, .slice x0.oa x0.owes.length x0.oc, .slice x0.ka x0.knows.length x0.kc] 54)
  obtain ⟨cx0, cx1, cx2, cx3, cx4, cx5, cx6, cxf, cxl⟩ := BX.seven
  go_enter Try.func6, Try.ntmps6
  go_wp2_with fail
  refine (szServer_laws x0 1048576 _ (hw0.below G0) (by omega) (by omega)).mono ?_
  rintro e w1 ⟨r, rfl, hr, hb1⟩
  have BX := BX.below hb1 BX.lt
  have G0 := below_after G0 hb1
  clear cx0 cx1 cx2 cx3 cx4 cx5 cx6 cxf cxl
  obtain ⟨cy0, cy1, cy2, cy3, cy4, cy5, cy6, cyf, cyl⟩ := BX.seven
  by_cases hneg : r < 0
  · go_wp2
    go_ret
    exact ⟨rfl, G0⟩
  have hr0 : 0 ≤ r := by omega
  obtain ⟨s1, s2, s3, s4, s5⟩ := hr hr0
  have hf : FewS x0 := ⟨by omega, few_of s2, few_of s3, by omega, by omega⟩
  clear hr hneg s1 s2 s3 s4 s5
  obtain ⟨b, hbv⟩ : ∃ b, serverOkB x0 = b := ⟨_, rfl⟩
  have hbb : (b != b) = false := by cases b <;> rfl
  have HB := Lib.hid hbv
  clear hbv
  go_wp2_with fail
  refine (toServer_laws x0 _ (hw0.below G0) hf).mono ?_
  rintro e w2 ⟨A2, B2, p02, pa2, pb2, p12, p22, c02, ca2, cb2, c12, c22, rfl, hA2, hB2, s2, a2, b2, o2, k2, hb2⟩
  have BX := BX.below hb2 BX.lt
  have G0 := below_after G0 hb2
  have hin2 : ServIn w2 (mkS x0 A2 B2 p02 pa2 pb2 p12 p22 c02 ca2 cb2 c12 c22) := ⟨s2, a2, b2, o2, k2⟩
  have hk2 := mks_ok (p0 := p02) (pa := pa2) (pb := pb2) (p1 := p12) (p2 := p22) (c0 := c02) (ca := ca2) (cb := cb2) (c1 := c12) (c2 := c22) hA2 hB2
  go_wp2_with fail
  refine (bool_is (hk2.trans HB.out) (ServerOk_spec (mkS x0 A2 B2 p02 pa2 pb2 p12 p22 c02 ca2 cb2 c12 c22) _ hin2 (mks_few hA2 hB2 hf))).mono ?_
  rintro e w3 ⟨rfl, hb3⟩
  clear hin2 hk2 s2 a2 b2 o2 k2
  have BX := BX.below hb3 BX.lt
  have G0 := below_after G0 hb3
  clear cy0 cy1 cy2 cy3 cy4 cy5 cy6 cyf cyl
  obtain ⟨cg0, cg1, cg2, cg3, cg4, cg5, cg6, cgf, cgl⟩ := BX.seven
  go_wp2_with fail
  refine (toServer_laws x0 _ (hw0.below G0) hf).mono ?_
  rintro e w4 ⟨A4, B4, p04, pa4, pb4, p14, p24, c04, ca4, cb4, c14, c24, rfl, hA4, hB4, s4, a4, b4, o4, k4, hb4⟩
  have BX := BX.below hb4 BX.lt
  have G0 := below_after G0 hb4
  have BT := Blk.new w4 #[.int .i64 x0.site, .bool x0.up, .slice p04 x0.slots.length c04, .slice pa4 A4.length ca4, .slice pb4 B4.length cb4, .slice p14 x0.owes.length c14, .slice p24 x0.knows.length c24] 59
  have hbx := below_box w4 (.cells #[.int .i64 x0.site, .bool x0.up, .slice p04 x0.slots.length c04, .slice pa4 A4.length ca4, .slice pb4 B4.length cb4, .slice p14 x0.owes.length c14, .slice p24 x0.knows.length c24] 59)
  have BX := BX.below hbx BX.lt
  have G0 := below_after G0 hbx
  have s4 := s4.below hbx
  have a4 := a4.below hbx
  have b4 := b4.below hbx
  have o4 := o4.below hbx
  have k4 := k4.below hbx
  clear cg0 cg1 cg2 cg3 cg4 cg5 cg6 cgf cgl
  obtain ⟨ch0, ch1, ch2, ch3, ch4, ch5, ch6, chf, chl⟩ := BT.seven
  obtain ⟨cz0, cz1, cz2, cz3, cz4, cz5, cz6, czf, czl⟩ := BX.seven
  have hin4 : ServIn _ (mkS x0 A4 B4 p04 pa4 pb4 p14 p24 c04 ca4 cb4 c14 c24) := ⟨s4, a4, b4, o4, k4⟩
  have hk4 := mks_ok (p0 := p04) (pa := pa4) (pb := pb4) (p1 := p14) (p2 := p24) (c0 := c04) (ca := ca4) (cb := cb4) (c1 := c14) (c2 := c24) hA4 hB4
  go_wp2_with fail
  refine (bool_is (hk4.trans HB.out) (ServerOk_impl (mkS x0 A4 B4 p04 pa4 pb4 p14 p24 c04 ca4 cb4 c14 c24) _ hin4 (mks_few hA4 hB4 hf))).mono ?_
  rintro e w5 ⟨rfl, hb5⟩
  clear hin4 hk4
  have BX := BX.below hb5 BX.lt
  have G0 := below_after G0 hb5
  have s4 := s4.below hb5
  have a4 := a4.below hb5
  have b4 := b4.below hb5
  have o4 := o4.below hb5
  have k4 := k4.below hb5
  have BT := BT.below hb5 BT.lt
  have hbd := (Below.refl w5.heap.size w5).drew
  have BX := BX.below hbd BX.lt
  have G0 := below_after G0 hbd
  have s4 := s4.below hbd
  have a4 := a4.below hbd
  have b4 := b4.below hbd
  have o4 := o4.below hbd
  have k4 := k4.below hbd
  have BT := BT.below hbd BT.lt
  have HA4 := Lib.hid hA4
  have HB4 := Lib.hid hB4
  clear hA2 hB2 hA4 hB4
  clear ch0 ch1 ch2 ch3 ch4 ch5 ch6 chf chl
  clear cz0 cz1 cz2 cz3 cz4 cz5 cz6 czf czl
  obtain ⟨ci0, ci1, ci2, ci3, ci4, ci5, ci6, cif, cil⟩ := BX.seven
  obtain ⟨cj0, cj1, cj2, cj3, cj4, cj5, cj6, cjf, cjl⟩ := BT.seven
  go_wp2_with fail
  go_region_with (first | (go_at_call 29; (with_reducible refine (toServer_laws x0 w5.drew (hw0.below G0) hf).mono ?_); rintro e w6 ⟨A6, B6, p06, pa6, pb6, p16, p26, c06, ca6, cb6, c16, c26, rfl, hA6, hB6, s6, a6, b6, o6, k6, hb6⟩; have HA6 := Lib.hid hA6; have HB6 := Lib.hid hB6; clear hA6 hB6; have BX := BX.below hb6 BX.lt; have G0 := below_after G0 hb6; have s4 := s4.below hb6; have a4 := a4.below hb6; have b4 := b4.below hb6; have o4 := o4.below hb6; have k4 := k4.below hb6; have BT := BT.below hb6 BT.lt; obtain ⟨ck0, ck1, ck2, ck3, ck4, ck5, ck6, ckf, ckl⟩ := BT.seven) | (go_at_call 31; (with_reducible refine (eqServM_same x0 A4 B4 A6 B6 p04 pa4 pb4 p14 p24 p06 pa6 pb6 p16 p26 c04 ca4 cb4 c14 c24 c06 ca6 cb6 c16 c26 w6 s4 s6 a4 a6 (HA6.out.trans HA4.out.symm) b4 b6 (HB6.out.trans HB4.out.symm) o4 o6 k4 k6).mono ?_); rintro e w7 ⟨rfl, hb7⟩; have G0 := below_after G0 hb7))
  all_goals (go_wp2; go_ret; exact ⟨rfl, G0⟩)

set_option maxRecDepth 100000 in
theorem lifted (os : Os) (started : os.Started) (H : Type) (enc : TypeId × Value → H) :
    ReturnsInHanded {} Try.checked os 6 .any (Rows.fnExactServerOkSpec.pre6 enc Try.prog Try.f6 Rows.fnExactServerOkRow.domain false) (Rows.fnExactServerOkSpec.post enc Try.prog Try.f6 false true false false) := by
  refine returnsInHanded_of_change (C := Try.checked) own started (by kernel_rfl) Try.func6
    (ChangeSpec.witness6 (enc := enc) (C := Try.checked) false ⟨#[], #[.agg #[.int .i64 0, .bool false, .slice none 0 0, .slice none 0 0, .slice none 0 0, .slice none 0 0, .slice none 0 0]], []⟩ 8 (by kernel_rfl) (by kernel_rfl) (by kernel_rfl) (by kernel_rfl)) ?_
  intro W base args ds gs before hval0 hW hcnd _
  have hval : ∀ (j : Nat) t v, Try.f6.params[j]? = some t → args[j]? = some v → Value.okWide Try.prog W .any base t v := hval0
  have hW' := hW
  obtain ⟨p, q, hA0, hV, rfl, hfz, hnd⟩ := hW
  have hA : DataW.TrodAll enc Try.prog W 0 (fun _ => true) true Try.f6.params.toList args.toList ds p := hA0
  rw [Try.params6] at hA hval
  obtain ⟨v0, vs0, d0, ds0, p0, q0, hargs, rfl, rfl, h0, r0⟩ := trodAll_cons hA
  obtain ⟨rfl, rfl, rfl⟩ := trodAll_nil r0
  obtain rfl : args = #[v0] := by cases args; simp_all
  obtain ⟨rfl, rfl⟩ := trodVars_none hV
  have lt0 : ∀ x ∈ p0, x.block < W.heap.size := by obtain ⟨m, hm⟩ := h0; exact DataW.trod_lt m _ _ _ hm
  obtain ⟨_, _, _, _, _, _, _, _, _, _, _, _, _, _, _, _, _, _, _, _, _, _, _, _, _, _, _, _, _, hS0⟩ := isServL
  obtain ⟨x0, rfl, w0⟩ := serv_of hS0 (hval 0 54 v0 rfl rfl) h0
  clear hA0 hval0
  refine (walk x0 W w0).mono fun e W' ⟨he, bel⟩ => ?_
  subst he
  exact ⟨_, rfl, _, _, _, [], _, [], hW', trodAll_mk1 (shut_bool Try.underlying4 _), (trodAll_cons_mk (Below.trod laidOut (by kernel_rfl) (of_decide_eq_true (by kernel_rfl)) h0 bel lt0) trodAll_mk0), rfl, bel.frame _, fun h => by cases h⟩

theorem over_row : Rows.fnExactServerOkRow.holds Try.pinned (OpenSpec.ofChange Rows.fnExactServerOkSpec) :=
  OpenClaim.holds_of_wide 6 Try.f6 rfl rfl rfl rfl rfl rfl rfl ⟨rfl, rfl, rfl, rfl, rfl⟩ rfl rfl rfl rfl rfl (by kernel_rfl) Try.func6 (by kernel_rfl)
    (of_decide_eq_true (by kernel_rfl)) (by unfold Func.isWrapper; first | (rw [if_pos (by decide +kernel)]; kernel_rfl) | (rw [if_neg (by decide +kernel)]; exact ⟨rfl, rfl⟩))
    (fun os started H enc _ => lifted os started H enc)

/-- The statement. -/
theorem proved : Rows.FnExactServerOkSaid := over_row
end Go.Proofs.Ythciikogogkfcaa.fnExactServerOk
