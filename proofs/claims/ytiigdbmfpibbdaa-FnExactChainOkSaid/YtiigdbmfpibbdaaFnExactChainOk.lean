/- ChainOk is the reference's. Of every input that the given statement lets in. -/
import Derived.Test.YtiigdbmfpibbdaaOpenV
import Derived.Test.YtiigdbmfpibbdaaConvVS
import Derived.Test.YtiigdbmfpibbdaaChainW
namespace Go.Proofs.Ytiigdbmfpibbdaa.fnExactChainOk
open Go.ChangeShapes Go.WideShapes Go.ChangeAt Go.RowKit
set_option linter.unusedVariables false

set_option maxHeartbeats 1000000 in
theorem walk (a0 : Option Addr) (k0 : Nat) (z0 : List Mv) (w : World) (w0 : Vers w a0 k0 z0) :
    Calls Try.prog 7 #[.slice a0 z0.length k0] w fun e w' => e = .returned (.bool true) ∧ Below w.heap.size w w' := by
  have hv0 := w0
  clear w0
  go_enter Try.func7, Try.ntmps7
  go_wp2_with fail
  refine (szVerS_laws z0 1048576 a0 k0 _ hv0 (by omega) (by omega)).mono ?_
  rintro e w1 ⟨rfl, hb1⟩
  have G0 := hb1
  by_cases hbig : (1048576 : Int) < (sizeM z0 : Int)
  · have hz : szR 1048576 (sizeM z0) = -1 := by rw [szR, if_pos hbig]
    go_wp2
    go_ret
    exact ⟨rfl, G0⟩
  · have hz : szR 1048576 (sizeM z0) = 1048576 - (sizeM z0 : Int) := by rw [szR, if_neg hbig]
    have hge : (0 : Int) ≤ szR 1048576 (sizeM z0) := by omega
    have hle : szR 1048576 (sizeM z0) ≤ 1048576 := by omega
    have hfew := few_of (l := z0) (by omega)
    clear hz
    go_wp2_with fail
    have sz2 := G0.size
    refine (toVerS_laws z0 a0 k0 _ (hv0.below G0) hfew).mono ?_
    rintro e w2 ⟨v2, ms2, rfl, hvm2, ownv2, hb2⟩
    obtain ⟨p2, c2, rfl, vv2⟩ := ownv2.open_
    have few2 := few_vs hvm2 hfew
    have HV2 := Lib.hid hvm2
    clear hvm2
    have G0 := below_after G0 hb2
    go_wp2_with fail
    refine (ChainOk_spec ms2 p2 c2 _ ownv2.vers few2).mono ?_
    rintro e w3 ⟨rfl, hb3⟩
    have G0 := below_after G0 hb3
    have ownv2 := ownv2.below hb3
    have ls3 := hb3.size
    go_wp2_with fail
    have sz4 := G0.size
    refine (toVerS_laws z0 a0 k0 _ (hv0.below G0) hfew).mono ?_
    rintro e w4 ⟨v4, ms4, rfl, hvm4, ownv4, hb4⟩
    obtain ⟨p4, c4, rfl, vv4⟩ := ownv4.open_
    have few4 := few_vs hvm4 hfew
    have HV4 := Lib.hid hvm4
    clear hvm4
    have G0 := below_after G0 hb4
    have ownv2 := ownv2.below hb4
    go_wp2_with fail
    refine (ChainOk_impl ms4 p4 c4 _ ownv4.vers few4).mono ?_
    rintro e w5 ⟨rfl, hb5⟩
    have G0 := below_after G0 hb5
    have ownv2 := ownv2.below hb5
    have ownv4 := ownv4.below hb5
    have ls5 := hb5.size
    rw [HV2.out, HV4.out]
    go_wp2_with fail
    have sz6 := G0.size
    refine (toVerS_laws z0 a0 k0 _ (hv0.below G0) hfew).mono ?_
    rintro e w6 ⟨v6, ms6, rfl, hvm6, ownv6, hb6⟩
    obtain ⟨p6, c6, rfl, vv6⟩ := ownv6.open_
    have few6 := few_vs hvm6 hfew
    have HV6 := Lib.hid hvm6
    clear hvm6
    have G0 := below_after G0 hb6
    have ownv2 := ownv2.below hb6
    have ownv4 := ownv4.below hb6
    go_wp2_with fail
    refine (eqVerS_same ms4 ms6 p4 p6 c4 c6 _ ownv4.vers ownv6.vers (by rw [HV4.out, HV6.out])).mono ?_
    rintro e w7 ⟨rfl, hb7⟩
    have G0 := below_after G0 hb7
    have ownv2 := ownv2.below hb7
    have ownv4 := ownv4.below hb7
    have ownv6 := ownv6.below hb7
    have ls7 := hb7.size
    go_wp2
    go_ret
    exact ⟨rfl, G0⟩

set_option maxRecDepth 100000 in
theorem lifted (os : Os) (started : os.Started) (H : Type) (enc : TypeId × Value → H) :
    ReturnsInHanded {} Try.checked os 7 .any (Rows.fnExactChainOkSpec.pre6 enc Try.prog Try.f7 Rows.fnExactChainOkRow.domain false) (Rows.fnExactChainOkSpec.post enc Try.prog Try.f7 false true false false) := by
  refine returnsInHanded_of_change (C := Try.checked) own started (by kernel_rfl) Try.func7
    (ChangeSpec.witness6 (enc := enc) (C := Try.checked) false ⟨#[], #[.slice none 0 0], []⟩ 8 (by kernel_rfl) (by kernel_rfl) (by kernel_rfl) (by kernel_rfl)) ?_
  intro W base args ds gs before hval0 hW hcnd _
  have hval : ∀ (j : Nat) t v, Try.f7.params[j]? = some t → args[j]? = some v → Value.okWide Try.prog W .any base t v := hval0
  have hW' := hW
  obtain ⟨p, q, hA0, hV, rfl, hfz, hnd⟩ := hW
  have hA : DataW.TrodAll enc Try.prog W 0 (fun _ => true) true Try.f7.params.toList args.toList ds p := hA0
  rw [Try.params7] at hA hval
  obtain ⟨v0, vs0, d0, ds0, p0, q0, hargs, rfl, rfl, h0, r0⟩ := trodAll_cons hA
  obtain ⟨rfl, rfl, rfl⟩ := trodAll_nil r0
  obtain rfl : args = #[v0] := by cases args; simp_all
  obtain ⟨rfl, rfl⟩ := trodVars_none hV
  have lt0 : ∀ x ∈ p0, x.block < W.heap.size := by obtain ⟨m, hm⟩ := h0; exact DataW.trod_lt m _ _ _ hm
  obtain ⟨_, _, _, _, _, _, _, _, _, _, _, _, _, hV0⟩ := isVerL
  obtain ⟨a0, k0, z0, rfl, w0⟩ := vers_of Try.underlying51 hV0 (hval 0 51 v0 rfl rfl) h0
  clear hA0 hval0
  refine (walk a0 k0 z0 W w0).mono fun e W' ⟨he, bel⟩ => ?_
  subst he
  exact ⟨_, rfl, _, _, _, [], _, [], hW', trodAll_mk1 (shut_bool Try.underlying4 _), (trodAll_cons_mk (Below.trod laidOut (by kernel_rfl) (of_decide_eq_true (by kernel_rfl)) h0 bel lt0) trodAll_mk0), rfl, bel.frame _, fun h => by cases h⟩

theorem over_row : Rows.fnExactChainOkRow.holds Try.pinned (OpenSpec.ofChange Rows.fnExactChainOkSpec) :=
  OpenClaim.holds_of_wide 7 Try.f7 rfl rfl rfl rfl rfl rfl rfl ⟨rfl, rfl, rfl, rfl, rfl⟩ rfl rfl rfl rfl rfl (by kernel_rfl) Try.func7 (by kernel_rfl)
    (of_decide_eq_true (by kernel_rfl)) (by unfold Func.isWrapper; first | (rw [if_pos (by decide +kernel)]; kernel_rfl) | (rw [if_neg (by decide +kernel)]; exact ⟨rfl, rfl⟩))
    (fun os started H enc _ => lifted os started H enc)

/-- The statement. -/
theorem proved : Rows.FnExactChainOkSaid := over_row
end Go.Proofs.Ytiigdbmfpibbdaa.fnExactChainOk
