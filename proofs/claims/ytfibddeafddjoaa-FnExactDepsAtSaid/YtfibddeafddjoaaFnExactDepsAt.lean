/- DepsAt is the reference's. Of every input that the given statement lets in. -/
import Derived.Test.YtfibddeafddjoaaOpenD
import Derived.Test.YtfibddeafddjoaaConvD
import Derived.Test.YtfibddeafddjoaaPutW2
namespace Go.Proofs.Ytfibddeafddjoaa.fnExactDepsAt
open Go.ChangeShapes Go.WideShapes Go.ChangeAt Go.RowKit
set_option linter.unusedVariables false

set_option maxHeartbeats 400000 in
theorem walk (a0 : Option Addr) (k0 : Nat) (z0 : List Dp) (n1 : Int) (w : World) (w0 : Reads w a0 z0.length k0 (dpsC z0)) (w1 : I64 n1) :
    Calls Try.prog 4 #[.slice a0 z0.length k0, .int .i64 n1] w fun e w' => e = .returned (.bool true) ∧ Below w.heap.size w w' := by
  have w0x := w0
  clear w0
  have hcap : z0.length ≤ maxLen := by obtain ⟨h1, h2, _⟩ := w0x; omega
  by_cases hbig : (1048576 : Int) < (z0.length : Int)
  · have hz : szR 1048576 z0.length = -1 := by rw [szR, if_pos hbig]
    go_enter Try.func4, Try.ntmps4
    go_wp2_with fail
    refine (szDepS_laws z0.length 1048576 a0 k0 _ (by omega) (by omega) hcap).mono ?_
    rintro e w' ⟨rfl, rfl⟩
    go_wp2
    go_ret
    exact ⟨rfl, Below.refl _ _⟩
  · have hz : szR 1048576 z0.length = 1048576 - (z0.length : Int) := by rw [szR, if_neg hbig]
    have hge : (0 : Int) ≤ szR 1048576 z0.length := by omega
    clear hz
    go_enter Try.func4, Try.ntmps4
    go_wp2_with fail
    refine (szDepS_laws z0.length 1048576 a0 k0 _ (by omega) (by omega) hcap).mono ?_
    rintro e w' ⟨rfl, rfl⟩
    have G0 := Below.refl w.heap.size w
    go_wp2_with fail
    refine (toDepS_laws z0 a0 k0 _ (w0x.below G0) (by omega)).mono ?_
    rintro e w1 ⟨v1, rfl, own1, hb1⟩
    obtain ⟨p1, c1, rfl, rd1⟩ := Reads.of_owns own1
    have G0 := below_after G0 hb1
    go_wp2_with fail
    refine (DepsAt_spec z0 n1 p1 c1 _ rd1 (by omega)).mono ?_
    rintro e w2 ⟨rfl, hb2⟩
    have G0 := below_after G0 hb2
    go_wp2_with fail
    have B1 := Blk.new w2 #[.int .i64 (atR z0 n1).1, .int .i64 (atR z0 n1).2] 30
    have G0 := below_alloc G0 (.cells #[.int .i64 (atR z0 n1).1, .int .i64 (atR z0 n1).2] 30)
    refine (toDepS_laws z0 a0 k0 _ (w0x.below G0) (by omega)).mono ?_
    rintro e w3 ⟨v3, rfl, own3, hb3⟩
    obtain ⟨p3, c3, rfl, rd3⟩ := Reads.of_owns own3
    have B1 := B1.below hb3 B1.lt
    have G0 := below_after G0 hb3
    go_wp2_with fail
    refine (DepsAt_impl z0 n1 p3 c3 _ rd3 (by omega)).mono ?_
    rintro e w4 ⟨rfl, hb4⟩
    have B1 := B1.below hb4 B1.lt
    have G0 := below_after G0 hb4
    have rd3 := rd3.below hb4
    obtain ⟨B1k0, B1k1, B1f, B1l⟩ := B1.two
    go_wp2_with fail
    have B1 := B1.alloc (.cells #[.int .i64 (atR z0 n1).1, .int .i64 (atR z0 n1).2] 30)
    have B2 := Blk.new w4 #[.int .i64 (atR z0 n1).1, .int .i64 (atR z0 n1).2] 30
    have G0 := below_alloc G0 (.cells #[.int .i64 (atR z0 n1).1, .int .i64 (atR z0 n1).2] 30)
    have rd3 := rd3.alloc (.cells #[.int .i64 (atR z0 n1).1, .int .i64 (atR z0 n1).2] 30)
    refine (eqStamp_same _ _ _).mono ?_
    rintro e w6 ⟨rfl, hb6⟩
    have B1 := B1.below hb6 B1.lt
    have B2 := B2.below hb6 B2.lt
    have G0 := below_after G0 hb6
    have rd3 := rd3.below hb6
    go_wp2_with fail
    refine (toDepS_laws z0 a0 k0 _ (w0x.below G0) (by omega)).mono ?_
    rintro e w7 ⟨v7, rfl, own7, hb7⟩
    obtain ⟨p7, c7, rfl, rd7⟩ := Reads.of_owns own7
    have B1 := B1.below hb7 B1.lt
    have B2 := B2.below hb7 B2.lt
    have G0 := below_after G0 hb7
    have rd3 := rd3.below hb7
    go_wp2_with fail
    refine (eqDepS_same z0 p3 p7 c3 c7 _ rd3 rd7).mono ?_
    rintro e w8 ⟨rfl, hb8⟩
    have B1 := B1.below hb8 B1.lt
    have B2 := B2.below hb8 B2.lt
    have G0 := below_after G0 hb8
    go_wp2_with fail
    go_ret
    exact ⟨rfl, G0⟩

set_option maxRecDepth 100000 in
theorem lifted (os : Os) (started : os.Started) (H : Type) (enc : TypeId × Value → H) :
    ReturnsInHanded {} Try.checked os 4 .any (Rows.fnExactDepsAtSpec.pre6 enc Try.prog Try.f4 Rows.fnExactDepsAtRow.domain false) (Rows.fnExactDepsAtSpec.post enc Try.prog Try.f4 false true false false) := by
  refine returnsInHanded_of_change (C := Try.checked) own started (by kernel_rfl) Try.func4
    (ChangeSpec.witness6 (enc := enc) (C := Try.checked) false ⟨#[], #[.slice none 0 0, .int .i64 0], []⟩ 8 (by kernel_rfl) (by kernel_rfl) (by kernel_rfl) (by kernel_rfl)) ?_
  intro W base args ds gs before hval0 hW hcnd _
  have hval : ∀ (j : Nat) t v, Try.f4.params[j]? = some t → args[j]? = some v → Value.okWide Try.prog W .any base t v := hval0
  have hW' := hW
  obtain ⟨p, q, hA0, hV, rfl, hfz, hnd⟩ := hW
  have hA : DataW.TrodAll enc Try.prog W 0 (fun _ => true) true Try.f4.params.toList args.toList ds p := hA0
  rw [Try.params4] at hA hval
  obtain ⟨v0, vs0, d0, ds0, p0, q0, hargs, rfl, rfl, h0, r0⟩ := trodAll_cons hA
  obtain ⟨v1, vs1, d1, ds1, p1, q1, rfl, rfl, rfl, h1, r1⟩ := trodAll_cons r0
  obtain ⟨rfl, rfl, rfl⟩ := trodAll_nil r1
  obtain rfl : args = #[v0, v1] := by cases args; simp_all
  obtain ⟨rfl, rfl⟩ := trodVars_none hV
  have lt0 : ∀ x ∈ p0, x.block < W.heap.size := by obtain ⟨m, hm⟩ := h0; exact DataW.trod_lt m _ _ _ hm
  obtain ⟨_, _, _, _, hD0⟩ := isDepL
  obtain ⟨a0, k0, z0, rfl, w0⟩ := deps_of Try.underlying22 hD0 (hval 0 22 v0 rfl rfl) h0
  have lt1 : ∀ x ∈ p1, x.block < W.heap.size := by obtain ⟨m, hm⟩ := h1; exact DataW.trod_lt m _ _ _ hm
  obtain ⟨n1, rfl, w1⟩ := int_of Try.underlying3 (hval 1 3 v1 rfl rfl) h1
  clear hA0 hval0
  refine (walk a0 k0 z0 n1 W w0 w1).mono fun e W' ⟨he, bel⟩ => ?_
  subst he
  exact ⟨_, rfl, _, _, _, [], _, [], hW', trodAll_mk1 (shut_bool Try.underlying4 _), (trodAll_cons_mk (Below.trod laidOut (by kernel_rfl) (of_decide_eq_true (by kernel_rfl)) h0 bel lt0) (trodAll_cons_mk (Below.trod laidOut (by kernel_rfl) (of_decide_eq_true (by kernel_rfl)) h1 bel lt1) trodAll_mk0)), rfl, bel.frame _, fun h => by cases h⟩

theorem over_row : Rows.fnExactDepsAtRow.holds Try.pinned (OpenSpec.ofChange Rows.fnExactDepsAtSpec) :=
  OpenClaim.holds_of_wide 4 Try.f4 rfl rfl rfl rfl rfl rfl rfl ⟨rfl, rfl, rfl, rfl, rfl⟩ rfl rfl rfl rfl rfl (by kernel_rfl) Try.func4 (by kernel_rfl)
    (of_decide_eq_true (by kernel_rfl)) (by unfold Func.isWrapper; first | (rw [if_pos (by decide +kernel)]; kernel_rfl) | (rw [if_neg (by decide +kernel)]; exact ⟨rfl, rfl⟩))
    (fun os started H enc _ => lifted os started H enc)

/-- The statement. -/
theorem proved : Rows.FnExactDepsAtSaid := over_row
end Go.Proofs.Ytfibddeafddjoaa.fnExactDepsAt
