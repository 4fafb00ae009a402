/- VerOk is the reference's. Of every input that the given statement lets in. -/
import Derived.Test.YtfibddeafddjoaaOpenV
import Derived.Test.YtfibddeafddjoaaConvV
import Derived.Test.YtfibddeafddjoaaVerW
import Derived.Deep.RegionHeld3
namespace Go.Proofs.Ytfibddeafddjoaa.fnExactVerOk
open Go.ChangeShapes Go.WideShapes Go.ChangeAt Go.RowKit
set_option linter.unusedVariables false

set_option maxHeartbeats 1000000 in
theorem walk (m0 : Mv) (w : World) (w0 : Reads w m0.a m0.v.deps.length m0.c (dpsC m0.v.deps)) :
    Calls Try.prog 7 #[.agg #[.int .i64 m0.v.key, .int .i64 m0.v.time, .int .i64 m0.v.site, .int .i64 m0.v.val, .int .i64 m0.v.client, .int .i64 m0.v.call, .slice m0.a m0.v.deps.length m0.c]] w fun e w' => e = .returned (.bool true) ∧ Below w.heap.size w w' := by
  have hcap : m0.v.deps.length ≤ maxLen := by obtain ⟨h1, h2, _⟩ := w0; omega
  have G0 := Below.refl w.heap.size w
  have w0x := w0
  clear w0
  have BA := Blk.new w #[.int .i64 m0.v.key, .int .i64 m0.v.time, .int .i64 m0.v.site, .int .i64 m0.v.val, .int .i64 m0.v.client, .int .i64 m0.v.call, .slice m0.a m0.v.deps.length m0.c] 46
  have hbA := below_box w (.cells #[.int .i64 m0.v.key, .int .i64 m0.v.time, .int .i64 m0.v.site, .int .i64 m0.v.val, .int .i64 m0.v.client, .int .i64 m0.v.call, .slice m0.a m0.v.deps.length m0.c] 46)
  have w0x := w0x.below hbA
  have G0 := below_after G0 hbA
  obtain ⟨BA0, BA1, BA2, BA3, BA4, BA5, BA6, BAf, BAl⟩ := BA.seven
  go_enter Try.func7, Try.ntmps7
  go_wp2_with fail
  refine (szVer_laws m0.v 1048576 m0.a m0.c _ (by omega) (by omega) hcap).mono ?_
  rintro e w1 ⟨rfl, hb1⟩
  have BA := BA.below hb1 BA.lt
  have w0x := w0x.below hb1
  have G0 := below_after G0 hb1
  by_cases hbig : (1048576 : Int) < (m0.v.deps.length : Int)
  · have hz : szR 1048576 m0.v.deps.length = -1 := by rw [szR, if_pos hbig]
    go_wp2
    go_ret
    exact ⟨rfl, G0⟩
  · have hz : szR 1048576 m0.v.deps.length = 1048576 - (m0.v.deps.length : Int) := by rw [szR, if_neg hbig]
    have hge : (0 : Int) ≤ szR 1048576 m0.v.deps.length := by omega
    clear hz
    obtain ⟨BA0, BA1, BA2, BA3, BA4, BA5, BA6, BAf, BAl⟩ := BA.seven
    go_wp2_with fail
    refine (toVer_laws m0.v m0.a m0.c _ w0x (by omega)).mono ?_
    rintro e w2 ⟨p2, c2, rfl, own2, hb2⟩
    have BA := BA.below hb2 BA.lt
    have G0 := below_after G0 hb2
    have w0x := w0x.below hb2
    have rd2 := Reads.own own2
    go_wp2_with fail
    refine (VerOk_spec m0.v p2 c2 _ rd2 (by omega)).mono ?_
    rintro e w3 ⟨rfl, hb3⟩
    have BA := BA.below hb3 BA.lt
    have G0 := below_after G0 hb3
    have w0x := w0x.below hb3
    have rd2 := rd2.below hb3
    have ls3 := hb3.size
    obtain ⟨BA0, BA1, BA2, BA3, BA4, BA5, BA6, BAf, BAl⟩ := BA.seven
    go_wp2_with fail
    refine (toVer_laws m0.v m0.a m0.c _ w0x (by omega)).mono ?_
    rintro e w4 ⟨p4, c4, rfl, own4, hb4⟩
    have BA := BA.below hb4 BA.lt
    have G0 := below_after G0 hb4
    have w0x := w0x.below hb4
    have rd2 := rd2.below hb4
    have rd4 := Reads.own own4
    have BX := Blk.new w4 #[.int .i64 m0.v.key, .int .i64 m0.v.time, .int .i64 m0.v.site, .int .i64 m0.v.val, .int .i64 m0.v.client, .int .i64 m0.v.call, .slice p4 m0.v.deps.length c4] 41
    have hbBX := below_box w4 (.cells #[.int .i64 m0.v.key, .int .i64 m0.v.time, .int .i64 m0.v.site, .int .i64 m0.v.val, .int .i64 m0.v.client, .int .i64 m0.v.call, .slice p4 m0.v.deps.length c4] 41)
    have BA := BA.alloc (.cells #[.int .i64 m0.v.key, .int .i64 m0.v.time, .int .i64 m0.v.site, .int .i64 m0.v.val, .int .i64 m0.v.client, .int .i64 m0.v.call, .slice p4 m0.v.deps.length c4] 41)
    have G0 := below_after G0 hbBX
    have w0x := w0x.below hbBX
    have rd2 := rd2.below hbBX
    have rd4 := rd4.below hbBX
    obtain ⟨BA0, BA1, BA2, BA3, BA4, BA5, BA6, BAf, BAl⟩ := BA.seven
    obtain ⟨BX0, BX1, BX2, BX3, BX4, BX5, BX6, BXf, BXl⟩ := BX.seven
    go_wp2_with fail
    refine (VerOk_impl m0.v p4 c4 _ rd4 (by omega)).mono ?_
    rintro e w5 ⟨rfl, hb5⟩
    have BA := BA.below hb5 BA.lt
    have BX := BX.below hb5 BX.lt
    have G0 := below_after G0 hb5
    have w0x := w0x.below hb5
    have rd2 := rd2.below hb5
    have rd4 := rd4.below hb5
    have ls5 := hb5.size
    go_wp2_with fail
    have hbd := (Below.refl w5.heap.size w5).drew
    have BA := BA.below hbd BA.lt
    have BX := BX.below hbd BX.lt
    have G0 := below_after G0 hbd
    have w0x := w0x.below hbd
    have rd2 := rd2.below hbd
    have rd4 := rd4.below hbd
    have zA := BA.lt
    have zX := BX.lt
    go_region_held3 (fun W => W.cell? ⟨w.heap.size, 0, none⟩ = some (.int .i64 m0.v.key) ∧ W.cell? ⟨w.heap.size, 1, none⟩ = some (.int .i64 m0.v.time) ∧ W.cell? ⟨w.heap.size, 2, none⟩ = some (.int .i64 m0.v.site) ∧ W.cell? ⟨w.heap.size, 3, none⟩ = some (.int .i64 m0.v.val) ∧ W.cell? ⟨w.heap.size, 4, none⟩ = some (.int .i64 m0.v.client) ∧ W.cell? ⟨w.heap.size, 5, none⟩ = some (.int .i64 m0.v.call) ∧ W.cell? ⟨w.heap.size, 6, none⟩ = some (.slice m0.a m0.v.deps.length m0.c) ∧ W.cell? ⟨w4.heap.size, 0, none⟩ = some (.int .i64 m0.v.key) ∧ W.cell? ⟨w4.heap.size, 1, none⟩ = some (.int .i64 m0.v.time) ∧ W.cell? ⟨w4.heap.size, 2, none⟩ = some (.int .i64 m0.v.site) ∧ W.cell? ⟨w4.heap.size, 3, none⟩ = some (.int .i64 m0.v.val) ∧ W.cell? ⟨w4.heap.size, 4, none⟩ = some (.int .i64 m0.v.client) ∧ W.cell? ⟨w4.heap.size, 5, none⟩ = some (.int .i64 m0.v.call) ∧ W.cell? ⟨w4.heap.size, 6, none⟩ = some (.slice p4 m0.v.deps.length c4)) (exact ⟨BA.cell 0 rfl, BA.cell 1 rfl, BA.cell 2 rfl, BA.cell 3 rfl, BA.cell 4 rfl, BA.cell 5 rfl, BA.cell 6 rfl, BX.cell 0 rfl, BX.cell 1 rfl, BX.cell 2 rfl, BX.cell 3 rfl, BX.cell 4 rfl, BX.cell 5 rfl, BX.cell 6 rfl⟩) (first | (go_at_call 29; refine (toVer_laws m0.v m0.a m0.c _ w0x (by omega)).mono ?_; rintro e w6 ⟨p6, c6, rfl, own6, hb⟩; have w0x := w0x.below hb; have rd2 := rd2.below hb; have rd4 := rd4.below hb; have BA := BA.below hb BA.lt; have BX := BX.below hb BX.lt; have G0 := below_after G0 hb; have rd6 := Reads.own own6) | (go_at_call 30; refine (eqVer_same m0.v p4 p6 c4 c6 _ rd4 rd6).mono ?_; rintro e w7 ⟨rfl, hb⟩; have w0x := w0x.below hb; have rd2 := rd2.below hb; have rd4 := rd4.below hb; have BA := BA.below hb BA.lt; have BX := BX.below hb BX.lt; have G0 := below_after G0 hb))
    go_wp2
    go_ret
    exact ⟨rfl, G0⟩

set_option maxRecDepth 100000 in
theorem lifted (os : Os) (started : os.Started) (H : Type) (enc : TypeId × Value → H) :
    ReturnsInHanded {} Try.checked os 7 .any (Rows.fnExactVerOkSpec.pre6 enc Try.prog Try.f7 Rows.fnExactVerOkRow.domain false) (Rows.fnExactVerOkSpec.post enc Try.prog Try.f7 false true false false) := by
  refine returnsInHanded_of_change (C := Try.checked) own started (by kernel_rfl) Try.func7
    (ChangeSpec.witness6 (enc := enc) (C := Try.checked) false ⟨#[], #[.agg #[.int .i64 0, .int .i64 0, .int .i64 0, .int .i64 0, .int .i64 0, .int .i64 0, .slice none 0 0]], []⟩ 8 (by kernel_rfl) (by kernel_rfl) (by kernel_rfl) (by kernel_rfl)) ?_
  intro W base args ds gs before hval0 hW hcnd _
  have hval : ∀ (j : Nat) t v, Try.f7.params[j]? = some t → args[j]? = some v → Value.okWide Try.prog W .any base t v := hval0
  have hW' := hW
  obtain ⟨p, q, hA0, hV, rfl, hfz, hnd⟩ := hW
  have hA : DataW.TrodAll enc Try.prog W 0 (fun _ => true) true Try.f7.params.toList args.toList ds p := hA0
  rw [Try.params7] at hA hval
  obtain ⟨v0, vs0, d0, ds0, p0, q0, hargs, rfl, rfl, h0, r0⟩ := trodAll_cons hA
  obtain ⟨rfl, rfl, rfl⟩ := trodAll_nil r0
  obtain rfl : args = #[v0] := by cases args; simp_all
  obtain ⟨rfl, rfl⟩ := trodVars_none hV
  have lt0 : ∀ x ∈ p0, x.block < W.heap.size := by obtain ⟨m, hm⟩ := h0; exact DataW.trod_lt m _ _ _ hm
  obtain ⟨_, _, _, _, _, _, _, _, _, _, _, _, _, hV0⟩ := isVerL
  obtain ⟨m0, rfl, w0⟩ := ver_of hV0 (hval 0 46 v0 rfl rfl) h0
  clear hA0 hval0
  refine (walk m0 W w0).mono fun e W' ⟨he, bel⟩ => ?_
  subst he
  exact ⟨_, rfl, _, _, _, [], _, [], hW', trodAll_mk1 (shut_bool Try.underlying4 _), (trodAll_cons_mk (Below.trod laidOut (by kernel_rfl) (of_decide_eq_true (by kernel_rfl)) h0 bel lt0) trodAll_mk0), rfl, bel.frame _, fun h => by cases h⟩

theorem over_row : Rows.fnExactVerOkRow.holds Try.pinned (OpenSpec.ofChange Rows.fnExactVerOkSpec) :=
  OpenClaim.holds_of_wide 7 Try.f7 rfl rfl rfl rfl rfl rfl rfl ⟨rfl, rfl, rfl, rfl, rfl⟩ rfl rfl rfl rfl rfl (by kernel_rfl) Try.func7 (by kernel_rfl)
    (of_decide_eq_true (by kernel_rfl)) (by unfold Func.isWrapper; first | (rw [if_pos (by decide +kernel)]; kernel_rfl) | (rw [if_neg (by decide +kernel)]; exact ⟨rfl, rfl⟩))
    (fun os started H enc _ => lifted os started H enc)

/-- The statement. -/
theorem proved : Rows.FnExactVerOkSaid := over_row
end Go.Proofs.Ytfibddeafddjoaa.fnExactVerOk
