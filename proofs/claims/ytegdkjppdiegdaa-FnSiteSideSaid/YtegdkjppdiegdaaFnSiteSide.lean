/- Each site has one side, and there are two of each. Of every input that the given statement lets in. -/
import Derived.Test.YtegdkjppdiegdaaOpen
import Derived.Test.YtegdkjppdiegdaaDraw2
namespace Go.Proofs.Ytegdkjppdiegdaa.fnSiteSide
open Go.ChangeShapes Go.WideShapes Go.ChangeAt Go.RowKit
set_option linter.unusedVariables false

set_option maxHeartbeats 400000 in
theorem walk (a0 : Option Addr) (l0 k0 : Nat) (w : World) (w0 : BytesIn w a0 l0 k0) :
    Calls Try.prog 9 #[.slice a0 l0 k0] w fun e w' => e = .returned (.bool true) ∧ Below w.heap.size w w' := by
  by_cases hbig : 1048576 < l0
  · have hbig' : (1048576 : Int) < (l0 : Int) := by omega
    go_enter Try.func9, Try.ntmps9
    go_wp2
    go_ret
    exact ⟨rfl, Below.refl _ _⟩
  · have hbig' : (l0 : Int) ≤ (1048576 : Int) := by omega
    have v0 : siteSideI 0 = 0 := by decide
    have v1 : siteSideI 1 = 0 := by decide
    have v2 : siteSideI 2 = 1 := by decide
    have v3 : siteSideI 3 = 1 := by decide
    have v4 : siteSideI 4 = -1 := by decide
    have vm : siteSideI (-1) = -1 := by decide
    have G0 := Below.refl w.heap.size w
    go_enter Try.func9, Try.ntmps9
    go_wp2_with fail
    refine (DrawSiteSide_any _ _ _ _ w0).mono ?_
    rintro e w1 ⟨x, rfl, hx1, hx2, hb1⟩
    go_wp2_with (first | (go_at_call 21; refine (siteSide_impl _ _).mono ?_; rintro e w1 ⟨rfl, rfl⟩) | (go_at_call 20; refine (siteSide_spec _ _).mono ?_; rintro e w1 ⟨rfl, rfl⟩))
    go_loopw [5, 6] (fun i _ wr => ∃ k a b : Int, (k = 0 ∧ a = 0 ∧ b = 0 ∨ k = 1 ∧ a = 1 ∧ b = 0 ∨ k = 2 ∧ a = 2 ∧ b = 0 ∨ k = 3 ∧ a = 2 ∧ b = 1 ∨ k = 4 ∧ a = 2 ∧ b = 2) ∧ i = .int .i64 k ∧ wr = w1.alloc (.cells #[.int .i64 a, .int .i64 b] 3)) (fun i _ _ => (4 - intOf i).toNat)
    case atStart => exact ⟨0, 0, 0, .inl ⟨rfl, rfl, rfl⟩, rfl, rfl⟩
    case round =>
      obtain ⟨k, a, b, hk, rfl, rfl⟩ := hrel
      rcases hk with ⟨rfl, rfl, rfl⟩ | ⟨rfl, rfl, rfl⟩ | ⟨rfl, rfl, rfl⟩ | ⟨rfl, rfl, rfl⟩ | ⟨rfl, rfl, rfl⟩
      case inr.inr.inr.inr =>
        go_wp2_with (first | (go_at_call 21; refine (siteSide_impl _ _).mono ?_; rintro e w1 ⟨rfl, rfl⟩) | (go_at_call 20; refine (siteSide_spec _ _).mono ?_; rintro e w1 ⟨rfl, rfl⟩))
        go_ret
        exact ⟨rfl, below_alloc hb1 _⟩
      all_goals
        go_wp2_with (first | (go_at_call 21; refine (siteSide_impl _ _).mono ?_; rintro e w1 ⟨rfl, rfl⟩) | (go_at_call 20; refine (siteSide_spec _ _).mono ?_; rintro e w1 ⟨rfl, rfl⟩))
        go_roundw
        case rel => exact ⟨_, _, _, by omega, rfl, rfl⟩
        case measure => simp [intOf]

set_option maxRecDepth 100000 in
theorem lifted (os : Os) (started : os.Started) (H : Type) (enc : TypeId × Value → H) :
    ReturnsInHanded {} Try.checked os 9 .any (Rows.fnSiteSideSpec.pre6 enc Try.prog Try.f9 Rows.fnSiteSideRow.domain false) (Rows.fnSiteSideSpec.post enc Try.prog Try.f9 false true false false) := by
  refine returnsInHanded_of_change (C := Try.checked) own started (by kernel_rfl) Try.func9
    (ChangeSpec.witness6 (enc := enc) (C := Try.checked) false ⟨#[], #[.slice none 0 0], []⟩ 8 (by kernel_rfl) (by kernel_rfl) (by kernel_rfl) (by kernel_rfl)) ?_
  intro W base args ds gs before hval0 hW hcnd _
  have hval : ∀ (j : Nat) t v, Try.f9.params[j]? = some t → args[j]? = some v → Value.okWide Try.prog W .any base t v := hval0
  have hW' := hW
  obtain ⟨p, q, hA0, hV, rfl, hfz, hnd⟩ := hW
  have hA : DataW.TrodAll enc Try.prog W 0 (fun _ => true) true Try.f9.params.toList args.toList ds p := hA0
  rw [Try.params9] at hA hval
  obtain ⟨v0, vs0, d0, ds0, p0, q0, hargs, rfl, rfl, h0, r0⟩ := trodAll_cons hA
  obtain ⟨rfl, rfl, rfl⟩ := trodAll_nil r0
  obtain rfl : args = #[v0] := by cases args; simp_all
  obtain ⟨rfl, rfl⟩ := trodVars_none hV
  have lt0 : ∀ x ∈ p0, x.block < W.heap.size := by obtain ⟨m, hm⟩ := h0; exact DataW.trod_lt m _ _ _ hm
  obtain ⟨a0, l0, k0, rfl, w0⟩ := bytes_of Try.underlying33 Try.underlying5 (by kernel_rfl) (hval 0 33 v0 rfl rfl) h0
  clear hA0 hval0
  refine (walk a0 l0 k0 W w0).mono fun e W' ⟨he, bel⟩ => ?_
  subst he
  exact ⟨_, rfl, _, _, _, [], _, [], hW', trodAll_mk1 (shut_bool Try.underlying4 _), (trodAll_cons_mk (Below.trod laidOut (by kernel_rfl) (of_decide_eq_true (by kernel_rfl)) h0 bel lt0) trodAll_mk0), rfl, bel.frame _, fun h => by cases h⟩

theorem over_row : Rows.fnSiteSideRow.holds Try.pinned (OpenSpec.ofChange Rows.fnSiteSideSpec) :=
  OpenClaim.holds_of_wide 9 Try.f9 rfl rfl rfl rfl rfl rfl rfl ⟨rfl, rfl, rfl, rfl, rfl⟩ rfl rfl rfl rfl rfl (by kernel_rfl) Try.func9 (by kernel_rfl)
    (of_decide_eq_true (by kernel_rfl)) (by unfold Func.isWrapper; first | (rw [if_pos (by decide +kernel)]; kernel_rfl) | (rw [if_neg (by decide +kernel)]; exact ⟨rfl, rfl⟩))
    (fun os started H enc _ => lifted os started H enc)

/-- The statement. -/
theorem proved : Rows.FnSiteSideSaid := over_row
end Go.Proofs.Ytegdkjppdiegdaa.fnSiteSide
