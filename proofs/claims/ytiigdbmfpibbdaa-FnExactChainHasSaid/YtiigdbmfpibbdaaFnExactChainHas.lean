/- ChainHas is the reference's. Of every input that the given statement lets in. -/
import Derived.Test.YtiigdbmfpibbdaaOpenV
import Derived.Test.YtiigdbmfpibbdaaConvVS
import Derived.Test.YtiigdbmfpibbdaaChainW4
namespace Go.Proofs.Ytiigdbmfpibbdaa.fnExactChainHas
open Go.ChangeShapes Go.WideShapes Go.ChangeAt Go.RowKit
set_option linter.unusedVariables false

set_option maxHeartbeats 1000000 in
theorem walk (a0 : Option Addr) (k0 : Nat) (z0 : List Mv) (a1 : Option Addr) (k1 : Nat) (z1 : List Dp) (w : World) (w0 : Vers w a0 k0 z0) (w1 : Reads w a1 z1.length k1 (dpsC z1)) :
    Calls Try.prog 8 #[.slice a0 z0.length k0, .slice a1 z1.length k1] w fun e w' => e = .returned (.bool true) ∧ Below w.heap.size w w' := by
  have w1' := w1
  clear w1
  have hv0 := w0
  clear w0
  go_enter Try.func8, Try.ntmps8
  go_wp2_with fail
  refine (szVerS_laws z0 1048576 a0 k0 _ hv0 (by omega) (by omega)).mono ?_
  rintro e w1 ⟨rfl, hb1⟩
  have G0 := hb1
  by_cases hbig : (1048576 : Int) < (sizeM z0 : Int)
  · have hz : szR 1048576 (sizeM z0) = -1 := by rw [szR, if_pos hbig]
    go_wp2
    go_ret
    exact ⟨rfl, G0⟩
  · have hz : szR 1048576 (sizeM z0) = 1048576 - (sizeM z0 : Int) := by rw [szR, if_neg hbig]
    have hge : (0 : Int) ≤ szR 1048576 (sizeM z0) := by omega
    have hle : szR 1048576 (sizeM z0) ≤ 1048576 := by omega
    have hfew := few_of (l := z0) (by omega)
    clear hz
    have hr1 := w1'
    clear w1'
    have hcap : z1.length ≤ maxLen := by obtain ⟨h1, h2, _⟩ := hr1; omega
    go_wp2_with fail
    refine (szDepS_laws z1.length (szR 1048576 (sizeM z0)) a1 k1 _ hge hle hcap).mono ?_
    rintro e w' ⟨rfl, rfl⟩
    by_cases hbih : szR 1048576 (sizeM z0) < (z1.length : Int)
    · have hz : szR (szR 1048576 (sizeM z0)) z1.length = -1 := by rw [szR, if_pos hbih]
      go_wp2
      go_ret
      exact ⟨rfl, G0⟩
    · have hge2 : (0 : Int) ≤ szR (szR 1048576 (sizeM z0)) z1.length := by rw [szR, if_neg hbih]; omega
      have hn1 : z1.length ≤ 1048576 := by omega
      clear hbih hbig
      go_wp2_with fail
      have sz2 := G0.size
      refine (toVerS_laws z0 a0 k0 _ (hv0.below G0) hfew).mono ?_
      rintro e w2 ⟨v2, ms2, rfl, hvm2, ownv2, hb2⟩
      obtain ⟨p2, c2, rfl, vv2⟩ := ownv2.open_
      have few2 := few_vs hvm2 hfew
      have HV2 := Lib.hid hvm2
      clear hvm2
      have G0 := below_after G0 hb2
      go_wp2_with fail
      have sz3 := G0.size
      refine (toDepS_laws z1 a1 k1 _ (hr1.below G0) (by omega)).mono ?_
      rintro e w3 ⟨v3, rfl, own3, hb3⟩
      obtain ⟨p3, c3, rfl, rd3⟩ := Reads.of_owns own3
      have G0 := below_after G0 hb3
      have ownv2 := ownv2.below hb3
      have first3 := own3
      have ls3 := hb3.size
      go_wp2_with fail
      refine (ChainHas_spec ms2 p2 c2 z1 p3 c3 _ ownv2.vers few2 (Reads.own own3) (by omega)).mono ?_
      rintro e w4 ⟨rfl, hb4⟩
      have own3 := own_below own3 hb4
      have G0 := below_after G0 hb4
      have ownv2 := ownv2.below hb4
      have ls4 := hb4.size
      go_wp2_with fail
      have sz5 := G0.size
      refine (toVerS_laws z0 a0 k0 _ (hv0.below G0) hfew).mono ?_
      rintro e w5 ⟨v5, ms5, rfl, hvm5, ownv5, hb5⟩
      obtain ⟨p5, c5, rfl, vv5⟩ := ownv5.open_
      have few5 := few_vs hvm5 hfew
      have HV5 := Lib.hid hvm5
      clear hvm5
      have own3 := own_below own3 hb5
      have G0 := below_after G0 hb5
      have ownv2 := ownv2.below hb5
      go_wp2_with fail
      have sz6 := G0.size
      refine (toDepS_laws z1 a1 k1 _ (hr1.below G0) (by omega)).mono ?_
      rintro e w6 ⟨v6, rfl, own6, hb6⟩
      obtain ⟨p6, c6, rfl, rd6⟩ := Reads.of_owns own6
      have own3 := own_below own3 hb6
      have G0 := below_after G0 hb6
      have ownv2 := ownv2.below hb6
      have ownv5 := ownv5.below hb6
      have first6 := own6
      have ls6 := hb6.size
      go_wp2_with fail
      refine (ChainHas_impl ms5 p5 c5 z1 p6 c6 _ ownv5.vers few5 (Reads.own own6) (by omega)).mono ?_
      rintro e w7 ⟨rfl, hb7⟩
      have own3 := own_below own3 hb7
      have own6 := own_below own6 hb7
      have G0 := below_after G0 hb7
      have ownv2 := ownv2.below hb7
      have ownv5 := ownv5.below hb7
      have ls7 := hb7.size
      rw [HV2.out, HV5.out]
      go_wp2_with fail
      have sz8 := G0.size
      refine (toVerS_laws z0 a0 k0 _ (hv0.below G0) hfew).mono ?_
      rintro e w8 ⟨v8, ms8, rfl, hvm8, ownv8, hb8⟩
      obtain ⟨p8, c8, rfl, vv8⟩ := ownv8.open_
      have few8 := few_vs hvm8 hfew
      have HV8 := Lib.hid hvm8
      clear hvm8
      have own3 := own_below own3 hb8
      have own6 := own_below own6 hb8
      have G0 := below_after G0 hb8
      have ownv2 := ownv2.below hb8
      have ownv5 := ownv5.below hb8
      go_wp2_with fail
      refine (eqVerS_same ms5 ms8 p5 p8 c5 c8 _ ownv5.vers ownv8.vers (by rw [HV5.out, HV8.out])).mono ?_
      rintro e w9 ⟨rfl, hb9⟩
      have own3 := own_below own3 hb9
      have own6 := own_below own6 hb9
      have G0 := below_after G0 hb9
      have ownv2 := ownv2.below hb9
      have ownv5 := ownv5.below hb9
      have ownv8 := ownv8.below hb9
      have ls9 := hb9.size
      go_wp2_with fail
      have sz10 := G0.size
      refine (toDepS_laws z1 a1 k1 _ (hr1.below G0) (by omega)).mono ?_
      rintro e w10 ⟨v10, rfl, own10, hb10⟩
      obtain ⟨p10, c10, rfl, rd10⟩ := Reads.of_owns own10
      have own3 := own_below own3 hb10
      have own6 := own_below own6 hb10
      have G0 := below_after G0 hb10
      have ownv2 := ownv2.below hb10
      have ownv5 := ownv5.below hb10
      have ownv8 := ownv8.below hb10
      have first10 := own10
      have ls10 := hb10.size
      go_wp2_with fail
      refine (eqDepS_same z1 p6 p10 c6 c10 _ (Reads.own own6) (Reads.own own10)).mono ?_
      rintro e w11 ⟨rfl, hb11⟩
      have own3 := own_below own3 hb11
      have own6 := own_below own6 hb11
      have own10 := own_below own10 hb11
      have G0 := below_after G0 hb11
      have ownv2 := ownv2.below hb11
      have ownv5 := ownv5.below hb11
      have ownv8 := ownv8.below hb11
      have ls11 := hb11.size
      go_wp2
      go_ret
      exact ⟨rfl, G0⟩

set_option maxRecDepth 100000 in
theorem lifted (os : Os) (started : os.Started) (H : Type) (enc : TypeId × Value → H) :
    ReturnsInHanded {} Try.checked os 8 .any (Rows.fnExactChainHasSpec.pre6 enc Try.prog Try.f8 Rows.fnExactChainHasRow.domain false) (Rows.fnExactChainHasSpec.post enc Try.prog Try.f8 false true false false) := by
  refine returnsInHanded_of_change (C := Try.checked) own started (by kernel_rfl) Try.func8
    (ChangeSpec.witness6 (enc := enc) (C := Try.checked) false ⟨#[], #[.slice none 0 0, .slice none 0 0], []⟩ 8 (by kernel_rfl) (by kernel_rfl) (by kernel_rfl) (by kernel_rfl)) ?_
  intro W base args ds gs before hval0 hW hcnd _
  have hval : ∀ (j : Nat) t v, Try.f8.params[j]? = some t → args[j]? = some v → Value.okWide Try.prog W .any base t v := hval0
  have hW' := hW
  obtain ⟨p, q, hA0, hV, rfl, hfz, hnd⟩ := hW
  have hA : DataW.TrodAll enc Try.prog W 0 (fun _ => true) true Try.f8.params.toList args.toList ds p := hA0
  rw [Try.params8] at hA hval
  obtain ⟨v0, vs0, d0, ds0, p0, q0, hargs, rfl, rfl, h0, r0⟩ := trodAll_cons hA
  obtain ⟨v1, vs1, d1, ds1, p1, q1, rfl, rfl, rfl, h1, r1⟩ := trodAll_cons r0
  obtain ⟨rfl, rfl, rfl⟩ := trodAll_nil r1
  obtain rfl : args = #[v0, v1] := by cases args; simp_all
  obtain ⟨rfl, rfl⟩ := trodVars_none hV
  have lt0 : ∀ x ∈ p0, x.block < W.heap.size := by obtain ⟨m, hm⟩ := h0; exact DataW.trod_lt m _ _ _ hm
  obtain ⟨_, _, _, _, _, _, _, _, _, _, _, _, _, hV0⟩ := isVerL
  obtain ⟨a0, k0, z0, rfl, w0⟩ := vers_of Try.underlying51 hV0 (hval 0 51 v0 rfl rfl) h0
  have lt1 : ∀ x ∈ p1, x.block < W.heap.size := by obtain ⟨m, hm⟩ := h1; exact DataW.trod_lt m _ _ _ hm
  obtain ⟨_, _, _, _, hD1⟩ := isDepL
  obtain ⟨a1, k1, z1, rfl, w1⟩ := deps_of Try.underlying36 hD1 (hval 1 36 v1 rfl rfl) h1
  clear hA0 hval0
  refine (walk a0 k0 z0 a1 k1 z1 W w0 w1).mono fun e W' ⟨he, bel⟩ => ?_
  subst he
  exact ⟨_, rfl, _, _, _, [], _, [], hW', trodAll_mk1 (shut_bool Try.underlying4 _), (trodAll_cons_mk (Below.trod laidOut (by kernel_rfl) (of_decide_eq_true (by kernel_rfl)) h0 bel lt0) (trodAll_cons_mk (Below.trod laidOut (by kernel_rfl) (of_decide_eq_true (by kernel_rfl)) h1 bel lt1) trodAll_mk0)), rfl, bel.frame _, fun h => by cases h⟩

theorem over_row : Rows.fnExactChainHasRow.holds Try.pinned (OpenSpec.ofChange Rows.fnExactChainHasSpec) :=
  OpenClaim.holds_of_wide 8 Try.f8 rfl rfl rfl rfl rfl rfl rfl ⟨rfl, rfl, rfl, rfl, rfl⟩ rfl rfl rfl rfl rfl (by kernel_rfl) Try.func8 (by kernel_rfl)
    (of_decide_eq_true (by kernel_rfl)) (by unfold Func.isWrapper; first | (rw [if_pos (by decide +kernel)]; kernel_rfl) | (rw [if_neg (by decide +kernel)]; exact ⟨rfl, rfl⟩))
    (fun os started H enc _ => lifted os started H enc)

/-- The statement. -/
theorem proved : Rows.FnExactChainHasSaid := over_row
end Go.Proofs.Ytiigdbmfpibbdaa.fnExactChainHas
