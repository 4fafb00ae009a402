/- Of two stamps that are unlike just one is ahead. Of every input that the given statement lets in. -/
import Derived.Test.YtegdkjppdiegdaaOpen
import Derived.Test.YtegdkjppdiegdaaDraw2
namespace Go.Proofs.Ytegdkjppdiegdaa.fnStampOrder
open Go.ChangeShapes Go.WideShapes Go.ChangeAt Go.RowKit
set_option linter.unusedVariables false

set_option maxHeartbeats 400000 in
theorem walk (a0 : Option Addr) (l0 k0 : Nat) (w : World) (w0 : BytesIn w a0 l0 k0) :
    Calls Try.prog 11 #[.slice a0 l0 k0] w fun e w' => e = .returned (.bool true) ∧ Below w.heap.size w w' := by
  by_cases hbig : 1048576 < l0
  · have hbig' : (1048576 : Int) < (l0 : Int) := by omega
    go_enter Try.func11, Try.ntmps11
    go_wp2
    go_ret
    exact ⟨rfl, Below.refl _ _⟩
  · have hbig' : (l0 : Int) ≤ (1048576 : Int) := by omega
    go_enter Try.func11, Try.ntmps11
    go_wp2_with fail
    refine (DrawStampLess_any _ _ _ _ w0).mono ?_
    rintro e w1 ⟨t, s, u, v, rfl, ht1, ht2, hs1, hs2, hu1, hu2, hv1, hv2, hb1⟩
    go_wp2_with fail
    refine (stampLess_impl _ _ _ _ _).mono ?_
    rintro e w2 ⟨rfl, HB⟩
    obtain ⟨hc, hf, hl, hle⟩ := bcell HB
    go_wp2
    refine region_over (by kernel_rfl) (by kernel_rfl) ?_
    repeat (go_big_quiet_step (first | (go_at_call 17; exact quiet_over (stampLess_impl _ _ _ _ _)) | (go_at_call 15; exact quiet_over (stampLess_spec _ _ _ _ _)) | (go_at_call 19; exact quiet_over (stampOk_impl _ _ _)) | (go_at_call 18; exact quiet_over (stampOk_spec _ _ _))))
    refine wpQuiet_nil ?_
    intro w1 hb
    have HB := below_after HB hb; obtain ⟨hc, hf, hl, hle⟩ := bcell HB
    go_wp2_with (first | (go_at_call 17; refine (stampLess_impl _ _ _ _ _).mono ?_; rintro e w1 ⟨rfl, hb⟩; have HB := below_after HB hb; obtain ⟨hc, hf, hl, hle⟩ := bcell HB))
    all_goals
      go_ret
      refine ⟨congrArg (fun b => Ending.returned (Value.bool b)) ?_, below_after (below_alloc (below_alloc hb1 _) _) HB⟩
      simp_all [stampLessB]
      try omega

set_option maxRecDepth 100000 in
theorem lifted (os : Os) (started : os.Started) (H : Type) (enc : TypeId × Value → H) :
    ReturnsInHanded {} Try.checked os 11 .any (Rows.fnStampOrderSpec.pre6 enc Try.prog Try.f11 Rows.fnStampOrderRow.domain false) (Rows.fnStampOrderSpec.post enc Try.prog Try.f11 false true false false) := by
  refine returnsInHanded_of_change (C := Try.checked) own started (by kernel_rfl) Try.func11
    (ChangeSpec.witness6 (enc := enc) (C := Try.checked) false ⟨#[], #[.slice none 0 0], []⟩ 8 (by kernel_rfl) (by kernel_rfl) (by kernel_rfl) (by kernel_rfl)) ?_
  intro W base args ds gs before hval0 hW hcnd _
  have hval : ∀ (j : Nat) t v, Try.f11.params[j]? = some t → args[j]? = some v → Value.okWide Try.prog W .any base t v := hval0
  have hW' := hW
  obtain ⟨p, q, hA0, hV, rfl, hfz, hnd⟩ := hW
  have hA : DataW.TrodAll enc Try.prog W 0 (fun _ => true) true Try.f11.params.toList args.toList ds p := hA0
  rw [Try.params11] at hA hval
  obtain ⟨v0, vs0, d0, ds0, p0, q0, hargs, rfl, rfl, h0, r0⟩ := trodAll_cons hA
  obtain ⟨rfl, rfl, rfl⟩ := trodAll_nil r0
  obtain rfl : args = #[v0] := by cases args; simp_all
  obtain ⟨rfl, rfl⟩ := trodVars_none hV
  have lt0 : ∀ x ∈ p0, x.block < W.heap.size := by obtain ⟨m, hm⟩ := h0; exact DataW.trod_lt m _ _ _ hm
  obtain ⟨a0, l0, k0, rfl, w0⟩ := bytes_of Try.underlying33 Try.underlying5 (by kernel_rfl) (hval 0 33 v0 rfl rfl) h0
  clear hA0 hval0
  refine (walk a0 l0 k0 W w0).mono fun e W' ⟨he, bel⟩ => ?_
  subst he
  exact ⟨_, rfl, _, _, _, [], _, [], hW', trodAll_mk1 (shut_bool Try.underlying4 _), (trodAll_cons_mk (Below.trod laidOut (by kernel_rfl) (of_decide_eq_true (by kernel_rfl)) h0 bel lt0) trodAll_mk0), rfl, bel.frame _, fun h => by cases h⟩

theorem over_row : Rows.fnStampOrderRow.holds Try.pinned (OpenSpec.ofChange Rows.fnStampOrderSpec) :=
  OpenClaim.holds_of_wide 11 Try.f11 rfl rfl rfl rfl rfl rfl rfl ⟨rfl, rfl, rfl, rfl, rfl⟩ rfl rfl rfl rfl rfl (by kernel_rfl) Try.func11 (by kernel_rfl)
    (of_decide_eq_true (by kernel_rfl)) (by unfold Func.isWrapper; first | (rw [if_pos (by decide +kernel)]; kernel_rfl) | (rw [if_neg (by decide +kernel)]; exact ⟨rfl, rfl⟩))
    (fun os started H enc _ => lifted os started H enc)

/-- The statement. -/
theorem proved : Rows.FnStampOrderSaid := over_row
end Go.Proofs.Ytegdkjppdiegdaa.fnStampOrder
