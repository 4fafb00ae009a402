/- What is ahead of one that is ahead is ahead. Of every input that the given statement lets in. -/
import Derived.Test.YtegdkjppdiegdaaOpen
import Derived.Test.YtegdkjppdiegdaaDraw2
namespace Go.Proofs.Ytegdkjppdiegdaa.fnStampChain
open Go.ChangeShapes Go.WideShapes Go.ChangeAt Go.RowKit
set_option linter.unusedVariables false

set_option maxHeartbeats 400000 in
theorem walk (a0 : Option Addr) (l0 k0 : Nat) (a1 : Option Addr) (l1 k1 : Nat) (w : World) (w0 : BytesIn w a0 l0 k0) (w1 : BytesIn w a1 l1 k1) :
    Calls Try.prog 8 #[.slice a0 l0 k0, .slice a1 l1 k1] w fun e w' => e = .returned (.bool true) ∧ Below w.heap.size w w' := by
  by_cases hbig : 1048576 < l0
  · have hbig' : (1048576 : Int) < (l0 : Int) := by omega
    go_enter Try.func8, Try.ntmps8
    go_wp2
    go_ret
    exact ⟨rfl, Below.refl _ _⟩
  · have hbig' : (l0 : Int) ≤ (1048576 : Int) := by omega
    by_cases hbih : 1048576 < l1
    · have hbih' : (1048576 : Int) < (l1 : Int) := by omega
      go_enter Try.func8, Try.ntmps8
      go_wp2
      go_ret
      exact ⟨rfl, Below.refl _ _⟩
    · have hbih' : (l1 : Int) ≤ (1048576 : Int) := by omega
      have w1x := w1
      clear w1
      go_enter Try.func8, Try.ntmps8
      have G0 := Below.refl w.heap.size w
      go_wp2_with fail
      refine (DrawStampLess_any _ _ _ _ w0).mono ?_
      rintro e w1 ⟨t, s, u, v, rfl, ht1, ht2, hs1, hs2, hu1, hu2, hv1, hv2, hb1⟩
      have G0 := below_after G0 hb1
      go_wp2_with fail
      have B1 := Blk.new w1 #[.int .i64 t, .int .i64 s] 26
      have G0 := below_alloc G0 (.cells #[.int .i64 t, .int .i64 s] 26)
      have B1 := B1.alloc (.cells #[.int .i64 u, .int .i64 v] 26)
      have B2 := Blk.new (w1.alloc (.cells #[.int .i64 t, .int .i64 s] 26)) #[.int .i64 u, .int .i64 v] 26
      simp only [World.size_alloc] at B2
      have G0 := below_alloc G0 (.cells #[.int .i64 u, .int .i64 v] 26)
      refine (DrawStampOk_any _ _ _ _ ((w1x.below hb1).below (below_box2 _ _ _))).mono ?_
      rintro e w2 ⟨p, r, rfl, hp1, hp2, hr1, hr2, hb2⟩
      have B1 := B1.below hb2 B1.lt
      have B2 := B2.below hb2 B2.lt
      have G0 := below_after G0 hb2
      go_wp2_with fail
      have B1 := B1.alloc (.cells #[.int .i64 p, .int .i64 r] 26)
      have B2 := B2.alloc (.cells #[.int .i64 p, .int .i64 r] 26)
      have B3 := Blk.new w2 #[.int .i64 p, .int .i64 r] 26
      have G0 := below_alloc G0 (.cells #[.int .i64 p, .int .i64 r] 26)
      obtain ⟨B1k0, B1k1, B1f, B1l⟩ := B1.two
      simp only [World.size_alloc] at B1l
      obtain ⟨B2k0, B2k1, B2f, B2l⟩ := B2.two
      simp only [World.size_alloc] at B2l
      obtain ⟨B3k0, B3k1, B3f, B3l⟩ := B3.two
      simp only [World.size_alloc] at B3l
      refine region_over (by kernel_rfl) (by kernel_rfl) ?_
      repeat (go_big_quiet_step (first | (go_at_call 17; exact quiet_over (stampLess_impl _ _ _ _ _)) | (go_at_call 15; exact quiet_over (stampLess_spec _ _ _ _ _))))
      refine wpQuiet_nil ?_
      intro w1 HB
      obtain ⟨hc, hf, hl, hle⟩ := bcell HB
      go_wp2_with (first | (go_at_call 17; refine (stampLess_impl _ _ _ _ _).mono ?_; rintro e w1 ⟨rfl, hb⟩; have HB := below_after HB hb; obtain ⟨hc, hf, hl, hle⟩ := bcell HB))
      all_goals
        go_ret
        refine ⟨congrArg (fun b => Ending.returned (Value.bool b)) ?_, below_after G0 HB⟩
        simp_all [stampLessB]
        try omega

set_option maxRecDepth 100000 in
theorem lifted (os : Os) (started : os.Started) (H : Type) (enc : TypeId × Value → H) :
    ReturnsInHanded {} Try.checked os 8 .any (Rows.fnStampChainSpec.pre6 enc Try.prog Try.f8 Rows.fnStampChainRow.domain false) (Rows.fnStampChainSpec.post enc Try.prog Try.f8 false true false false) := by
  refine returnsInHanded_of_change (C := Try.checked) own started (by kernel_rfl) Try.func8
    (ChangeSpec.witness6 (enc := enc) (C := Try.checked) false ⟨#[], #[.slice none 0 0, .slice none 0 0], []⟩ 8 (by kernel_rfl) (by kernel_rfl) (by kernel_rfl) (by kernel_rfl)) ?_
  intro W base args ds gs before hval0 hW hcnd _
  have hval : ∀ (j : Nat) t v, Try.f8.params[j]? = some t → args[j]? = some v → Value.okWide Try.prog W .any base t v := hval0
  have hW' := hW
  obtain ⟨p, q, hA0, hV, rfl, hfz, hnd⟩ := hW
  have hA : DataW.TrodAll enc Try.prog W 0 (fun _ => true) true Try.f8.params.toList args.toList ds p := hA0
  rw [Try.params8] at hA hval
  obtain ⟨v0, vs0, d0, ds0, p0, q0, hargs, rfl, rfl, h0, r0⟩ := trodAll_cons hA
  obtain ⟨v1, vs1, d1, ds1, p1, q1, rfl, rfl, rfl, h1, r1⟩ := trodAll_cons r0
  obtain ⟨rfl, rfl, rfl⟩ := trodAll_nil r1
  obtain rfl : args = #[v0, v1] := by cases args; simp_all
  obtain ⟨rfl, rfl⟩ := trodVars_none hV
  have lt0 : ∀ x ∈ p0, x.block < W.heap.size := by obtain ⟨m, hm⟩ := h0; exact DataW.trod_lt m _ _ _ hm
  obtain ⟨a0, l0, k0, rfl, w0⟩ := bytes_of Try.underlying33 Try.underlying5 (by kernel_rfl) (hval 0 33 v0 rfl rfl) h0
  have lt1 : ∀ x ∈ p1, x.block < W.heap.size := by obtain ⟨m, hm⟩ := h1; exact DataW.trod_lt m _ _ _ hm
  obtain ⟨a1, l1, k1, rfl, w1⟩ := bytes_of Try.underlying33 Try.underlying5 (by kernel_rfl) (hval 1 33 v1 rfl rfl) h1
  clear hA0 hval0
  refine (walk a0 l0 k0 a1 l1 k1 W w0 w1).mono fun e W' ⟨he, bel⟩ => ?_
  subst he
  exact ⟨_, rfl, _, _, _, [], _, [], hW', trodAll_mk1 (shut_bool Try.underlying4 _), (trodAll_cons_mk (Below.trod laidOut (by kernel_rfl) (of_decide_eq_true (by kernel_rfl)) h0 bel lt0) (trodAll_cons_mk (Below.trod laidOut (by kernel_rfl) (of_decide_eq_true (by kernel_rfl)) h1 bel lt1) trodAll_mk0)), rfl, bel.frame _, fun h => by cases h⟩

theorem over_row : Rows.fnStampChainRow.holds Try.pinned (OpenSpec.ofChange Rows.fnStampChainSpec) :=
  OpenClaim.holds_of_wide 8 Try.f8 rfl rfl rfl rfl rfl rfl rfl ⟨rfl, rfl, rfl, rfl, rfl⟩ rfl rfl rfl rfl rfl (by kernel_rfl) Try.func8 (by kernel_rfl)
    (of_decide_eq_true (by kernel_rfl)) (by unfold Func.isWrapper; first | (rw [if_pos (by decide +kernel)]; kernel_rfl) | (rw [if_neg (by decide +kernel)]; exact ⟨rfl, rfl⟩))
    (fun os started H enc _ => lifted os started H enc)

/-- The statement. -/
theorem proved : Rows.FnStampChainSaid := over_row
end Go.Proofs.Ytegdkjppdiegdaa.fnStampChain
