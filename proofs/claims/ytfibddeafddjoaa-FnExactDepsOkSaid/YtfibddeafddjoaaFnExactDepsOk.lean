/- DepsOk is the reference's. Of every input that the given statement lets in. -/
import Derived.Test.YtfibddeafddjoaaOpenD
import Derived.Test.YtfibddeafddjoaaConvD
import Derived.Test.YtfibddeafddjoaaDepsW
namespace Go.Proofs.Ytfibddeafddjoaa.fnExactDepsOk
open Go.ChangeShapes Go.WideShapes Go.ChangeAt Go.RowKit
set_option linter.unusedVariables false

set_option maxHeartbeats 400000 in
theorem walk (a0 : Option Addr) (k0 : Nat) (z0 : List Dp) (w : World) (w0 : Reads w a0 z0.length k0 (dpsC z0)) :
    Calls Try.prog 3 #[.slice a0 z0.length k0] w fun e w' => e = .returned (.bool true) ∧ Below w.heap.size w w' := by
  have w0x := w0
  clear w0
  have hcap : z0.length ≤ maxLen := by obtain ⟨h1, h2, _⟩ := w0x; omega
  by_cases hbig : (1048576 : Int) < (z0.length : Int)
  · have hz : szR 1048576 z0.length = -1 := by rw [szR, if_pos hbig]
    go_enter Try.func3, Try.ntmps3
    go_wp2_with fail
    refine (szDepS_laws z0.length 1048576 a0 k0 _ (by omega) (by omega) hcap).mono ?_
    rintro e w' ⟨rfl, rfl⟩
    go_wp2
    go_ret
    exact ⟨rfl, Below.refl _ _⟩
  · have hz : szR 1048576 z0.length = 1048576 - (z0.length : Int) := by rw [szR, if_neg hbig]
    have hge : (0 : Int) ≤ szR 1048576 z0.length := by omega
    clear hz
    go_enter Try.func3, Try.ntmps3
    go_wp2_with fail
    refine (szDepS_laws z0.length 1048576 a0 k0 _ (by omega) (by omega) hcap).mono ?_
    rintro e w' ⟨rfl, rfl⟩
    have G0 := Below.refl w.heap.size w
    go_wp2_with fail
    refine (toDepS_laws z0 a0 k0 _ (w0x.below G0) (by omega)).mono ?_
    rintro e w1 ⟨v1, rfl, own1, hb1⟩
    obtain ⟨p1, c1, rfl, rd1⟩ := Reads.of_owns own1
    have G0 := below_after G0 hb1
    go_wp2_with fail
    refine (depsOk_spec z0 p1 c1 _ rd1 (by omega)).mono ?_
    rintro e w2 ⟨rfl, hb2⟩
    have G0 := below_after G0 hb2
    go_wp2_with fail
    refine (toDepS_laws z0 a0 k0 _ (w0x.below G0) (by omega)).mono ?_
    rintro e w3 ⟨v3, rfl, own3, hb3⟩
    obtain ⟨p3, c3, rfl, rd3⟩ := Reads.of_owns own3
    have G0 := below_after G0 hb3
    go_wp2_with fail
    refine (depsOk_impl z0 p3 c3 _ rd3 (by omega)).mono ?_
    rintro e w4 ⟨rfl, hb4⟩
    have G0 := below_after G0 hb4
    have rd3 := rd3.below hb4
    go_wp2_with fail
    refine (toDepS_laws z0 a0 k0 _ (w0x.below G0) (by omega)).mono ?_
    rintro e w5 ⟨v5, rfl, own5, hb5⟩
    obtain ⟨p5, c5, rfl, rd5⟩ := Reads.of_owns own5
    have G0 := below_after G0 hb5
    have rd3 := rd3.below hb5
    go_wp2_with fail
    refine (eqDepS_same z0 p3 p5 c3 c5 _ rd3 rd5).mono ?_
    rintro e w6 ⟨rfl, hb6⟩
    have G0 := below_after G0 hb6
    go_wp2_with fail
    go_ret
    exact ⟨rfl, G0⟩

set_option maxRecDepth 100000 in
theorem lifted (os : Os) (started : os.Started) (H : Type) (enc : TypeId × Value → H) :
    ReturnsInHanded {} Try.checked os 3 .any (Rows.fnExactDepsOkSpec.pre6 enc Try.prog Try.f3 Rows.fnExactDepsOkRow.domain false) (Rows.fnExactDepsOkSpec.post enc Try.prog Try.f3 false true false false) := by
  refine returnsInHanded_of_change (C := Try.checked) own started (by kernel_rfl) Try.func3
    (ChangeSpec.witness6 (enc := enc) (C := Try.checked) false ⟨#[], #[.slice none 0 0], []⟩ 8 (by kernel_rfl) (by kernel_rfl) (by kernel_rfl) (by kernel_rfl)) ?_
  intro W base args ds gs before hval0 hW hcnd _
  have hval : ∀ (j : Nat) t v, Try.f3.params[j]? = some t → args[j]? = some v → Value.okWide Try.prog W .any base t v := hval0
  have hW' := hW
  obtain ⟨p, q, hA0, hV, rfl, hfz, hnd⟩ := hW
  have hA : DataW.TrodAll enc Try.prog W 0 (fun _ => true) true Try.f3.params.toList args.toList ds p := hA0
  rw [Try.params3] at hA hval
  obtain ⟨v0, vs0, d0, ds0, p0, q0, hargs, rfl, rfl, h0, r0⟩ := trodAll_cons hA
  obtain ⟨rfl, rfl, rfl⟩ := trodAll_nil r0
  obtain rfl : args = #[v0] := by cases args; simp_all
  obtain ⟨rfl, rfl⟩ := trodVars_none hV
  have lt0 : ∀ x ∈ p0, x.block < W.heap.size := by obtain ⟨m, hm⟩ := h0; exact DataW.trod_lt m _ _ _ hm
  obtain ⟨_, _, _, _, hD0⟩ := isDepL
  obtain ⟨a0, k0, z0, rfl, w0⟩ := deps_of Try.underlying22 hD0 (hval 0 22 v0 rfl rfl) h0
  clear hA0 hval0
  refine (walk a0 k0 z0 W w0).mono fun e W' ⟨he, bel⟩ => ?_
  subst he
  exact ⟨_, rfl, _, _, _, [], _, [], hW', trodAll_mk1 (shut_bool Try.underlying4 _), (trodAll_cons_mk (Below.trod laidOut (by kernel_rfl) (of_decide_eq_true (by kernel_rfl)) h0 bel lt0) trodAll_mk0), rfl, bel.frame _, fun h => by cases h⟩

theorem over_row : Rows.fnExactDepsOkRow.holds Try.pinned (OpenSpec.ofChange Rows.fnExactDepsOkSpec) :=
  OpenClaim.holds_of_wide 3 Try.f3 rfl rfl rfl rfl rfl rfl rfl ⟨rfl, rfl, rfl, rfl, rfl⟩ rfl rfl rfl rfl rfl (by kernel_rfl) Try.func3 (by kernel_rfl)
    (of_decide_eq_true (by kernel_rfl)) (by unfold Func.isWrapper; first | (rw [if_pos (by decide +kernel)]; kernel_rfl) | (rw [if_neg (by decide +kernel)]; exact ⟨rfl, rfl⟩))
    (fun os started H enc _ => lifted os started H enc)

/-- The statement. -/
theorem proved : Rows.FnExactDepsOkSaid := over_row
end Go.Proofs.Ytfibddeafddjoaa.fnExactDepsOk
