/- CallSaw is the reference's. Of every input that the given statement lets in. -/
import Derived.Test.YthciikogogkfcaaSawW3
import Derived.Test.YthciikogogkfcaaMarkC
import Derived.Test.YthciikogogkfcaaOpenC
import Derived.Deep.RegionHeld3
namespace Go.Proofs.Ythciikogogkfcaa.fnExactCallSaw
open Go.ChangeShapes Go.WideShapes Go.ChangeAt Go.RowKit
set_option linter.unusedVariables false
theorem mkc_ok {x : Mc} {A : List An} {p0 p1 pa p2 : Option Addr} {c0 c1 ca c2 : Nat} (t : Int) (hA : ps A = ps x.got) : callOkB (mkC x A p0 p1 pa p2 c0 c1 ca c2) t = callOkB x t := by
  have hl : A.length = x.got.length := by rw [← ps_len A, hA, ps_len]
  simp only [callOkB, kindB, finB, noStamp, mkC, hA, hl]; rfl
theorem mkc_few {x : Mc} {A : List An} {p0 p1 pa p2 : Option Addr} {c0 c1 ca c2 : Nat} (hA : ps A = ps x.got) (hf : FewC x) : FewC (mkC x A p0 p1 pa p2 c0 c1 ca c2) :=
  ⟨hf.ks, hf.cx, fewA_ps hA hf.gt, hf.nd⟩
theorem mkc_saw {x : Mc} {A : List An} {p0 p1 pa p2 : Option Addr} {c0 c1 ca c2 : Nat} (hA : ps A = ps x.got) : callSawI (mkC x A p0 p1 pa p2 c0 c1 ca c2) = callSawI x := by
  unfold callSawI
  rw [mkc_ok _ hA]
  show (if callOkB x (IntKind.i64.wrap (x.beg + x.fin)) = true then sawI (mkC x A p0 p1 pa p2 c0 c1 ca c2) else []) = _
  have : sawI (mkC x A p0 p1 pa p2 c0 c1 ca c2) = sawI x := by
    show (if x.fin = 0 then x.ctx else if x.kind = 1 then putF x.ctx (firstK x, x.time, x.site) else (ps A).foldl stepI x.ctx) = _
    rw [hA]; rfl
  rw [this]
theorem mkc_size {x : Mc} {A : List An} (hA : ps A = ps x.got) (hs : sizeA x.got ≤ 1048576) : sizeA A ≤ 1048576 := by
  have hl : A.length = x.got.length := by rw [← ps_len A, hA, ps_len]
  unfold sizeA at hs ⊢
  rw [sumA_ps, hA, ← sumA_ps, hl]; exact hs
theorem own_is {P : Program} {f : FuncId} {args : Array Value} {w : World} {l l' : List Dp} (h : l = l') (hc : Calls P f args w (OwnDeps l w)) : Calls P f args w (OwnDeps l' w) := h ▸ hc
theorem grown_But {w w' : World} {row : Option Nat} (h : w.grownBy w' row) : But (fun i => row = some i) w w' := But.of_grown h fun i hi => hi
set_option maxRecDepth 100000 in
set_option maxHeartbeats 8000000 in
theorem walk (x0 : Mc) (w : World) (w0 : CallIn w x0) :
    Calls Try.prog 9 #[.agg #[.int .i64 x0.client, .int .i64 x0.num, .int .i64 x0.kind, .slice x0.ka x0.keys.length x0.kc, .int .i64 x0.val, .slice x0.xa x0.ctx.length x0.xc, .int .i64 x0.beg, .int .i64 x0.fin, .bool x0.over, .int .i64 x0.time, .int .i64 x0.site, .slice x0.ga x0.got.length x0.gc, .slice x0.na x0.needs.length x0.nc]] w fun e w' => e = .returned (.bool true) ∧ Below w.heap.size w w' := by
  have hw0 := w0
  clear w0
  have BX := Blk.new w #[.int .i64 x0.client, .int .i64 x0.num, .int .i64 x0.kind, .slice x0.ka x0.keys.length x0.kc, .int .i64 x0.val, .slice x0.xa x0.ctx.length x0.xc, .int .i64 x0.beg, .int .i64 x0.fin, .bool x0.over, .int .i64 x0.time, .int .i64 x0.site, .slice x0.ga x0.got.length x0.gc, .slice x0.na x0.needs.length x0.nc] 68
  have G0 := below_box w (.cells #[.int .i64 x0.client, .int .i64 x0.num, .int .i64 x0.kind, .slice x0.ka x0.keys.length x0.kc, .int .i64 x0.val, .slice x0.xa x0.ctx.length x0.xc, .int .i64 x0.beg, .int .i64 x0.fin, .bool x0.over, .int .i64 x0.time, .int .i64 x0.site, .slice x0.ga x0.got.length x0.gc, .slice x0.na x0.needs.length x0.nc] 68)
  obtain ⟨z1_0, z1_1, z1_2, z1_3, z1_4, z1_5, z1_6, z1_7, z1_8, z1_9, z1_10, z1_11, z1_12, z1_f, z1_l⟩ := BX.call
  go_enter Try.func9, Try.ntmps9
  go_wp2_with fail
  refine (szCall_laws x0 1048576 _ (hw0.below G0) (by omega) (by omega)).mono ?_
  rintro e w1 ⟨r, rfl, hr, hb1⟩
  have BX := BX.below hb1 BX.lt
  have G0 := below_after G0 hb1
  clear z1_0 z1_1 z1_2 z1_3 z1_4 z1_5 z1_6 z1_7 z1_8 z1_9 z1_10 z1_11 z1_12 z1_f z1_l
  obtain ⟨z2_0, z2_1, z2_2, z2_3, z2_4, z2_5, z2_6, z2_7, z2_8, z2_9, z2_10, z2_11, z2_12, z2_f, z2_l⟩ := BX.call
  by_cases hneg : r < 0
  · go_wp2
    go_ret
    exact ⟨rfl, G0⟩
  have hr0 : 0 ≤ r := by omega
  obtain ⟨s1, s2, s3, s4⟩ := hr hr0
  have hf : FewC x0 := ⟨by omega, by omega, fewA_of s3, by omega⟩
  clear hr hneg s1 s2 s4
  obtain ⟨R, hR⟩ : ∃ R, callSawI x0 = R := ⟨_, rfl⟩
  have hRl : R.length ≤ 6 := by rw [← hR]; exact callSaw_len x0
  have HR := Lib.hid hR
  clear hR
  go_wp2_with fail
  refine (toCall_laws x0 _ (hw0.below G0) hf).mono ?_
  rintro e w2 ⟨A2, p02, p12, pa2, p22, c02, c12, ca2, c22, rfl, hA2, hc2, hb2⟩
  have BX := BX.below hb2 BX.lt
  have G0 := below_after G0 hb2
  go_wp2_with fail
  refine (own_is ((mkc_saw (p0 := p02) (p1 := p12) (pa := pa2) (p2 := p22) (c0 := c02) (c1 := c12) (ca := ca2) (c2 := c22) hA2).trans HR.out) (CallSaw_spec (mkC x0 A2 p02 p12 pa2 p22 c02 c12 ca2 c22) _ hc2.in_ (mkc_few hA2 hf))).mono ?_
  rintro e w3 ⟨v3, rfl, own3, hb3⟩
  obtain ⟨pw, cw, rfl, rd3⟩ := Reads.of_owns own3
  have hbw : ∀ b, (Value.slice pw R.length cw).ownBlock = some b → b < w3.heap.size := fun b hb => (own3.lt b hb).2
  have hw3a := BX.lt
  have hw3b := hb3.size
  have hw3 : w.heap.size < w3.heap.size := by omega
  clear hc2 rd3
  have BX := BX.below hb3 BX.lt
  have G0 := below_after G0 hb3
  clear z2_0 z2_1 z2_2 z2_3 z2_4 z2_5 z2_6 z2_7 z2_8 z2_9 z2_10 z2_11 z2_12 z2_f z2_l
  obtain ⟨z3_0, z3_1, z3_2, z3_3, z3_4, z3_5, z3_6, z3_7, z3_8, z3_9, z3_10, z3_11, z3_12, z3_f, z3_l⟩ := BX.call
  go_wp2_with fail
  refine (toCall_laws x0 _ (hw0.below G0) hf).mono ?_
  rintro e w4 ⟨A4, p04, p14, pa4, p24, c04, c14, ca4, c24, rfl, hA4, hc4, hb4⟩
  have BX := BX.below hb4 BX.lt
  have own3 := own_below own3 hb4
  have G0 := below_after G0 hb4
  have hM4 := hc4.blks
  have hs43 := hb4.size
  have hs30 : w.heap.size < w4.heap.size := BX.lt
  have BT := Blk.new w4 #[.int .i64 x0.client, .int .i64 x0.num, .int .i64 x0.kind, .slice p04 x0.keys.length c04, .int .i64 x0.val, .slice p14 x0.ctx.length c14, .int .i64 x0.beg, .int .i64 x0.fin, .bool x0.over, .int .i64 x0.time, .int .i64 x0.site, .slice pa4 A4.length ca4, .slice p24 x0.needs.length c24] 73
  have hbx := below_box w4 (.cells #[.int .i64 x0.client, .int .i64 x0.num, .int .i64 x0.kind, .slice p04 x0.keys.length c04, .int .i64 x0.val, .slice p14 x0.ctx.length c14, .int .i64 x0.beg, .int .i64 x0.fin, .bool x0.over, .int .i64 x0.time, .int .i64 x0.site, .slice pa4 A4.length ca4, .slice p24 x0.needs.length c24] 73)
  have BX := BX.below hbx BX.lt
  have own3 := own_below own3 hbx
  have hc4 := hc4.below hbx
  have G0 := below_after G0 hbx
  clear z3_0 z3_1 z3_2 z3_3 z3_4 z3_5 z3_6 z3_7 z3_8 z3_9 z3_10 z3_11 z3_12 z3_f z3_l
  obtain ⟨z4_0, z4_1, z4_2, z4_3, z4_4, z4_5, z4_6, z4_7, z4_8, z4_9, z4_10, z4_11, z4_12, z4_f, z4_l⟩ := BX.call
  obtain ⟨z5_0, z5_1, z5_2, z5_3, z5_4, z5_5, z5_6, z5_7, z5_8, z5_9, z5_10, z5_11, z5_12, z5_f, z5_l⟩ := BT.call
  go_wp2_with fail
  refine (own_is ((mkc_saw (p0 := p04) (p1 := p14) (pa := pa4) (p2 := p24) (c0 := c04) (c1 := c14) (ca := ca4) (c2 := c24) hA4).trans HR.out) (CallSaw_impl (mkC x0 A4 p04 p14 pa4 p24 c04 c14 ca4 c24) _ hc4.in_ (mkc_few hA4 hf))).mono ?_
  rintro e w5 ⟨v5, rfl, own5, hb5⟩
  obtain ⟨pg, cg, rfl, rd5⟩ := Reads.of_owns own5
  have hbg : ∀ b, (Value.slice pg R.length cg).ownBlock = some b → w4.heap.size < b := fun b hb => by have h := (own5.lt b hb).1; rw [World.size_alloc] at h; omega
  clear rd5
  have BX := BX.below hb5 BX.lt
  have BT := BT.below hb5 BT.lt
  have own3 := own_below own3 hb5
  have hc4 := hc4.below hb5
  have G0 := below_after G0 hb5
  clear z4_0 z4_1 z4_2 z4_3 z4_4 z4_5 z4_6 z4_7 z4_8 z4_9 z4_10 z4_11 z4_12 z4_f z4_l
  obtain ⟨z6_0, z6_1, z6_2, z6_3, z6_4, z6_5, z6_6, z6_7, z6_8, z6_9, z6_10, z6_11, z6_12, z6_f, z6_l⟩ := BX.call
  clear z5_0 z5_1 z5_2 z5_3 z5_4 z5_5 z5_6 z5_7 z5_8 z5_9 z5_10 z5_11 z5_12 z5_f z5_l
  obtain ⟨z7_0, z7_1, z7_2, z7_3, z7_4, z7_5, z7_6, z7_7, z7_8, z7_9, z7_10, z7_11, z7_12, z7_f, z7_l⟩ := BT.call
  go_wp2_with fail
  refine (eqDepS_same R pg pw cg cw _ (Reads.own own5) (Reads.own own3)).mono ?_
  rintro e w6 ⟨rfl, hb6⟩
  have BX := BX.below hb6 BX.lt
  have BT := BT.below hb6 BT.lt
  have own3 := own_below own3 hb6
  have own5 := own_below own5 hb6
  have hc4 := hc4.below hb6
  have G0 := below_after G0 hb6
  have hbd := (Below.refl w6.heap.size w6).drew
  go_wp2_with fail
  have BX := BX.below hbd BX.lt
  have BT := BT.below hbd BT.lt
  have own3 := own_below own3 hbd
  have own5 := own_below own5 hbd
  have hc4 := hc4.below hbd
  have G0 := below_after G0 hbd
  clear z6_0 z6_1 z6_2 z6_3 z6_4 z6_5 z6_6 z6_7 z6_8 z6_9 z6_10 z6_11 z6_12 z6_f z6_l
  obtain ⟨z8_0, z8_1, z8_2, z8_3, z8_4, z8_5, z8_6, z8_7, z8_8, z8_9, z8_10, z8_11, z8_12, z8_f, z8_l⟩ := BX.call
  clear z7_0 z7_1 z7_2 z7_3 z7_4 z7_5 z7_6 z7_7 z7_8 z7_9 z7_10 z7_11 z7_12 z7_f z7_l
  obtain ⟨z9_0, z9_1, z9_2, z9_3, z9_4, z9_5, z9_6, z9_7, z9_8, z9_9, z9_10, z9_11, z9_12, z9_f, z9_l⟩ := BT.call
  go_region_held3 (fun W => W.cell? ⟨w.heap.size, 0, none⟩ = some (.int .i64 x0.client) ∧ W.cell? ⟨w.heap.size, 1, none⟩ = some (.int .i64 x0.num) ∧ W.cell? ⟨w.heap.size, 2, none⟩ = some (.int .i64 x0.kind) ∧ W.cell? ⟨w.heap.size, 3, none⟩ = some (.slice x0.ka x0.keys.length x0.kc) ∧ W.cell? ⟨w.heap.size, 4, none⟩ = some (.int .i64 x0.val) ∧ W.cell? ⟨w.heap.size, 5, none⟩ = some (.slice x0.xa x0.ctx.length x0.xc) ∧ W.cell? ⟨w.heap.size, 6, none⟩ = some (.int .i64 x0.beg) ∧ W.cell? ⟨w.heap.size, 7, none⟩ = some (.int .i64 x0.fin) ∧ W.cell? ⟨w.heap.size, 8, none⟩ = some (.bool x0.over) ∧ W.cell? ⟨w.heap.size, 9, none⟩ = some (.int .i64 x0.time) ∧ W.cell? ⟨w.heap.size, 10, none⟩ = some (.int .i64 x0.site) ∧ W.cell? ⟨w.heap.size, 11, none⟩ = some (.slice x0.ga x0.got.length x0.gc) ∧ W.cell? ⟨w.heap.size, 12, none⟩ = some (.slice x0.na x0.needs.length x0.nc) ∧ W.cell? ⟨w4.heap.size, 0, none⟩ = some (.int .i64 x0.client) ∧ W.cell? ⟨w4.heap.size, 1, none⟩ = some (.int .i64 x0.num) ∧ W.cell? ⟨w4.heap.size, 2, none⟩ = some (.int .i64 x0.kind) ∧ W.cell? ⟨w4.heap.size, 3, none⟩ = some (.slice p04 x0.keys.length c04) ∧ W.cell? ⟨w4.heap.size, 4, none⟩ = some (.int .i64 x0.val) ∧ W.cell? ⟨w4.heap.size, 5, none⟩ = some (.slice p14 x0.ctx.length c14) ∧ W.cell? ⟨w4.heap.size, 6, none⟩ = some (.int .i64 x0.beg) ∧ W.cell? ⟨w4.heap.size, 7, none⟩ = some (.int .i64 x0.fin) ∧ W.cell? ⟨w4.heap.size, 8, none⟩ = some (.bool x0.over) ∧ W.cell? ⟨w4.heap.size, 9, none⟩ = some (.int .i64 x0.time) ∧ W.cell? ⟨w4.heap.size, 10, none⟩ = some (.int .i64 x0.site) ∧ W.cell? ⟨w4.heap.size, 11, none⟩ = some (.slice pa4 A4.length ca4) ∧ W.cell? ⟨w4.heap.size, 12, none⟩ = some (.slice p24 x0.needs.length c24)) (exact ⟨BX.cell 0 rfl, BX.cell 1 rfl, BX.cell 2 rfl, BX.cell 3 rfl, BX.cell 4 rfl, BX.cell 5 rfl, BX.cell 6 rfl, BX.cell 7 rfl, BX.cell 8 rfl, BX.cell 9 rfl, BX.cell 10 rfl, BX.cell 11 rfl, BX.cell 12 rfl, BT.cell 0 rfl, BT.cell 1 rfl, BT.cell 2 rfl, BT.cell 3 rfl, BT.cell 4 rfl, BT.cell 5 rfl, BT.cell 6 rfl, BT.cell 7 rfl, BT.cell 8 rfl, BT.cell 9 rfl, BT.cell 10 rfl, BT.cell 11 rfl, BT.cell 12 rfl⟩) (first | (go_at_call 36; (with_reducible refine (toCall_laws x0 _ (hw0.below G0) hf).mono ?_); rintro e w7 ⟨A7, p07, p17, pa7, p27, c07, c17, ca7, c27, rfl, hA7, hc7, hb⟩; have BX := BX.below hb BX.lt; have BT := BT.below hb BT.lt; have own3 := own_below own3 hb; have own5 := own_below own5 hb; have hc4 := hc4.below hb; have G0 := below_after G0 hb) | (go_at_call 38; have ks4 : Reads w7 p04 x0.keys.length c04 (intsC x0.keys) := hc4.in_.ks; have kx4 : Reads w7 p14 x0.ctx.length c14 (dpsC x0.ctx) := hc4.in_.cx; have kg4 : Ans w7 pa4 ca4 A4 := hc4.in_.gt; have kn4 : Reads w7 p24 x0.needs.length c24 (dpsC x0.needs) := hc4.in_.nd; have ks7 : Reads w7 p07 x0.keys.length c07 (intsC x0.keys) := hc7.in_.ks; have kx7 : Reads w7 p17 x0.ctx.length c17 (dpsC x0.ctx) := hc7.in_.cx; have kg7 : Ans w7 pa7 ca7 A7 := hc7.in_.gt; have kn7 : Reads w7 p27 x0.needs.length c27 (dpsC x0.needs) := hc7.in_.nd; (with_reducible refine (eqCallM_same x0 A4 A7 p04 p14 pa4 p24 p07 p17 pa7 p27 c04 c14 ca4 c24 c07 c17 ca7 c27 w7 ks4 ks7 kx4 kx7 kg4 kg7 (hA7.trans hA4.symm) kn4 kn7).mono ?_); rintro e w8 ⟨rfl, hb⟩; have BX := BX.below hb BX.lt; have BT := BT.below hb BT.lt; have own3 := own_below own3 hb; have own5 := own_below own5 hb; have hc4 := hc4.below hb; have G0 := below_after G0 hb))
  clear z8_0 z8_1 z8_2 z8_3 z8_4 z8_5 z8_6 z8_7 z8_8 z8_9 z8_10 z8_11 z8_12 z8_f z8_l
  obtain ⟨z10_0, z10_1, z10_2, z10_3, z10_4, z10_5, z10_6, z10_7, z10_8, z10_9, z10_10, z10_11, z10_12, z10_f, z10_l⟩ := BX.call
  clear z9_0 z9_1 z9_2 z9_3 z9_4 z9_5 z9_6 z9_7 z9_8 z9_9 z9_10 z9_11 z9_12 z9_f z9_l
  obtain ⟨z11_0, z11_1, z11_2, z11_3, z11_4, z11_5, z11_6, z11_7, z11_8, z11_9, z11_10, z11_11, z11_12, z11_f, z11_l⟩ := BT.call
  have hkf := mkc_few (p0 := p04) (p1 := p14) (pa := pa4) (p2 := p24) (c0 := c04) (c1 := c14) (ca := ca4) (c2 := c24) hA4 hf
  have hks := mkc_size hA4 s3
  go_wp2_with fail
  refine (markCall_laws (mkC x0 A4 p04 p14 pa4 p24 c04 c14 ca4 c24) _ _ hc4 hkf hks).mono ?_
  rintro e w9 ⟨k, rfl, hk0, hB⟩
  have hT4 : ∀ i, BlksC (mkC x0 A4 p04 p14 pa4 p24 c04 c14 ca4 c24) i → w3.heap.size ≤ i ∧ i < w4.heap.size := hM4
  have hs93 : w.heap.size < w3.heap.size := hw3
  have BX := BX.but hB (fun h => by have := hT4 _ h; omega)
  have BT := BT.but hB (fun h => by have := hT4 _ h; omega)
  have own3 := own_but own3 hB (fun b hb hS => by have h1 := hbw b hb; have h2 := hT4 b hS; omega)
  have own5 := own_but own5 hB (fun b hb hS => by have h1 := hbg b hb; have h2 := hT4 b hS; omega)
  have G0 := hB.below G0 (fun i hi => by have := hT4 _ hi; omega)
  clear hc4 hB
  have hkn : decide (k < 0) = false := decide_eq_false (by omega)
  have hkm : ¬ k < 0 := by omega
  clear BT z11_0 z11_1 z11_2 z11_3 z11_4 z11_5 z11_6 z11_7 z11_8 z11_9 z11_10 z11_11 z11_12 z11_f z11_l
  clear z10_0 z10_1 z10_2 z10_3 z10_4 z10_5 z10_6 z10_7 z10_8 z10_9 z10_10 z10_11 z10_12 z10_f z10_l
  obtain ⟨z12_0, z12_1, z12_2, z12_3, z12_4, z12_5, z12_6, z12_7, z12_8, z12_9, z12_10, z12_11, z12_12, z12_f, z12_l⟩ := BX.call
  go_wp2_with fail
  refine (eqDepS_same R pg pw cg cw _ (Reads.own own5) (Reads.own own3)).mono ?_
  rintro e w10 ⟨rfl, hb10⟩
  have BX := BX.below hb10 BX.lt
  have own3 := own_below own3 hb10
  have own5 := own_below own5 hb10
  have G0 := below_after G0 hb10
  clear z12_0 z12_1 z12_2 z12_3 z12_4 z12_5 z12_6 z12_7 z12_8 z12_9 z12_10 z12_11 z12_12 z12_f z12_l
  obtain ⟨z13_0, z13_1, z13_2, z13_3, z13_4, z13_5, z13_6, z13_7, z13_8, z13_9, z13_10, z13_11, z13_12, z13_f, z13_l⟩ := BX.call
  go_wp2_with fail
  refine (markDepS_laws R.length 1 pg cg _ _ _ own5 (by omega) (by omega) (by omega)).mono ?_
  rintro e w11 ⟨rfl, ownG, hg⟩
  have hB := grown_But hg
  have BX := BX.but hB (fun h => by have := hbg _ h; omega)
  have own3 := own_but own3 hB (fun b hb hS => by have h1 := hbw b hb; have h2 := hbg b hS; omega)
  have G0 := hB.below G0 (fun i hi => by have := hbg _ hi; omega)
  clear own5 hg hB hbg
  obtain ⟨m, hm⟩ : ∃ m : Int, 1 + 3 * (R.length : Int) = m := ⟨_, rfl⟩
  rw [hm]
  have hm0 : 0 ≤ m := by omega
  have hmn : decide (m < 0) = false := decide_eq_false (by omega)
  have hmm : (m != m) = false := by simp
  have HM := Lib.hid hm
  clear hm
  clear z13_0 z13_1 z13_2 z13_3 z13_4 z13_5 z13_6 z13_7 z13_8 z13_9 z13_10 z13_11 z13_12 z13_f z13_l
  obtain ⟨z14_0, z14_1, z14_2, z14_3, z14_4, z14_5, z14_6, z14_7, z14_8, z14_9, z14_10, z14_11, z14_12, z14_f, z14_l⟩ := BX.call
  go_wp2_with fail
  refine (heldDepS_laws R.length 1 pg cg _ (Reads.own ownG) (by omega) (by omega) (by omega)).mono ?_
  rintro e w' ⟨rfl, rfl⟩
  rw [HM.out]
  go_wp2_with fail
  refine (toCall_laws x0 _ (hw0.below G0) hf).mono ?_
  rintro e w12 ⟨A12, p012, p112, pa12, p212, c012, c112, ca12, c212, rfl, hA12, hc12, hb12⟩
  have BX := BX.below hb12 BX.lt
  have own3 := own_below own3 hb12
  have ownG := own_below ownG hb12
  have G0 := below_after G0 hb12
  go_wp2_with fail
  refine (own_is ((mkc_saw (p0 := p012) (p1 := p112) (pa := pa12) (p2 := p212) (c0 := c012) (c1 := c112) (ca := ca12) (c2 := c212) hA12).trans HR.out) (CallSaw_impl (mkC x0 A12 p012 p112 pa12 p212 c012 c112 ca12 c212) _ hc12.in_ (mkc_few hA12 hf))).mono ?_
  rintro e w13 ⟨v13, rfl, own13, hb13⟩
  obtain ⟨ph, ch, rfl, rd13⟩ := Reads.of_owns own13
  clear hc12
  have BX := BX.below hb13 BX.lt
  have own3 := own_below own3 hb13
  have ownG := own_below ownG hb13
  have G0 := below_after G0 hb13
  go_wp2_with fail
  refine (eqDepS_same R ph pw ch cw _ rd13 (Reads.own own3)).mono ?_
  rintro e w14 ⟨rfl, hb14⟩
  have BX := BX.below hb14 BX.lt
  have own3 := own_below own3 hb14
  have ownG := own_below ownG hb14
  have G0 := below_after G0 hb14
  go_wp2_with fail
  refine (heldDepS_laws R.length 1 pg cg _ (Reads.own ownG) (by omega) (by omega) (by omega)).mono ?_
  rintro e w' ⟨rfl, rfl⟩
  rw [HM.out]
  go_wp2
  go_ret
  exact ⟨rfl, G0⟩

set_option maxRecDepth 100000 in
theorem lifted (os : Os) (started : os.Started) (H : Type) (enc : TypeId × Value → H) :
    ReturnsInHanded {} Try.checked os 9 .any (Rows.fnExactCallSawSpec.pre6 enc Try.prog Try.f9 Rows.fnExactCallSawRow.domain false) (Rows.fnExactCallSawSpec.post enc Try.prog Try.f9 false true false false) := by
  refine returnsInHanded_of_change (C := Try.checked) own started (by kernel_rfl) Try.func9
    (ChangeSpec.witness6 (enc := enc) (C := Try.checked) false ⟨#[], #[.agg #[.int .i64 0, .int .i64 0, .int .i64 0, .slice none 0 0, .int .i64 0, .slice none 0 0, .int .i64 0, .int .i64 0, .bool false, .int .i64 0, .int .i64 0, .slice none 0 0, .slice none 0 0]], []⟩ 8 (by kernel_rfl) (by kernel_rfl) (by kernel_rfl) (by kernel_rfl)) ?_
  intro W base args ds gs before hval0 hW hcnd _
  have hval : ∀ (j : Nat) t v, Try.f9.params[j]? = some t → args[j]? = some v → Value.okWide Try.prog W .any base t v := hval0
  have hW' := hW
  obtain ⟨p, q, hA0, hV, rfl, hfz, hnd⟩ := hW
  have hA : DataW.TrodAll enc Try.prog W 0 (fun _ => true) true Try.f9.params.toList args.toList ds p := hA0
  rw [Try.params9] at hA hval
  obtain ⟨v0, vs0, d0, ds0, p0, q0, hargs, rfl, rfl, h0, r0⟩ := trodAll_cons hA
  obtain ⟨rfl, rfl, rfl⟩ := trodAll_nil r0
  obtain rfl : args = #[v0] := by cases args; simp_all
  obtain ⟨rfl, rfl⟩ := trodVars_none hV
  have lt0 : ∀ x ∈ p0, x.block < W.heap.size := by obtain ⟨m, hm⟩ := h0; exact DataW.trod_lt m _ _ _ hm
  obtain ⟨_, _, _, _, _, _, _, _, _, _, _, _, _, _, _, _, _, _, _, _, _, _, _, _, _, _, _, _, _, _, _, _, _, _, _, _, _, hC0⟩ := isCallL
  obtain ⟨x0, rfl, w0⟩ := call_of hC0 (hval 0 68 v0 rfl rfl) h0
  clear hA0 hval0
  refine (walk x0 W w0).mono fun e W' ⟨he, bel⟩ => ?_
  subst he
  exact ⟨_, rfl, _, _, _, [], _, [], hW', trodAll_mk1 (shut_bool Try.underlying4 _), (trodAll_cons_mk (Below.trod laidOut (by kernel_rfl) (of_decide_eq_true (by kernel_rfl)) h0 bel lt0) trodAll_mk0), rfl, bel.frame _, fun h => by cases h⟩

theorem over_row : Rows.fnExactCallSawRow.holds Try.pinned (OpenSpec.ofChange Rows.fnExactCallSawSpec) :=
  OpenClaim.holds_of_wide 9 Try.f9 rfl rfl rfl rfl rfl rfl rfl ⟨rfl, rfl, rfl, rfl, rfl⟩ rfl rfl rfl rfl rfl (by kernel_rfl) Try.func9 (by kernel_rfl)
    (of_decide_eq_true (by kernel_rfl)) (by unfold Func.isWrapper; first | (rw [if_pos (by decide +kernel)]; kernel_rfl) | (rw [if_neg (by decide +kernel)]; exact ⟨rfl, rfl⟩))
    (fun os started H enc _ => lifted os started H enc)

/-- The statement. -/
theorem proved : Rows.FnExactCallSawSaid := over_row
end Go.Proofs.Ythciikogogkfcaa.fnExactCallSaw
