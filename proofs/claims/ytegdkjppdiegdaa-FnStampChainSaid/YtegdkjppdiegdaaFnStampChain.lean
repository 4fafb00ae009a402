/- What is ahead of one that is ahead is ahead. Of every input that the given statement lets in. -/
import Derived.Test.YtegdkjppdiegdaaOpen
import Derived.Test.YtegdkjppdiegdaaDraw2
namespace Go.Proofs.Ytegdkjppdiegdaa.fnStampChain
open Go.ChangeShapes Go.WideShapes Go.ChangeAt Go.RowKit
set_option linter.unusedVariables false

set_option maxHeartbeats 400000 in
theorem walk (a0 : Option Addr) (l0 k0 : Nat) (a1 : Option Addr) (l1 k1 : Nat) (w : World) (w0 : BytesIn w a0 l0 k0) (w1 : BytesIn w a1 l1 k1) :
    Calls Try.prog 8 #[.slice a0 l0 k0, .slice a1 l1 k1] w fun e w' => e = .returned (.bool true) ∧ Below w.heap.size w w' := by
  by_cases hbig : 1048576 < l0
  · have hbig' : (1048576 : Int) < (l0 : Int) := by omega
    go_enter Try.func8, Try.ntmps8
    go_wp2
    go_ret
    exact ⟨rfl, Below.refl _ _⟩
  · have hbig' : (l0 : Int) ≤ (1048576 : Int) := by omega
    by_cases hbih : 1048576 < l1
    · have hbih' : (1048576 : Int) < (l1 : Int) := by omega
      go_enter Try.func8, Try.ntmps8
      go_wp2
      go_ret
      exact ⟨rfl, Below.refl _ _⟩
    · have hbih' : (l1 : Int) ≤ (1048576 : Int) := by omega
      have w1x := w1
      clear w1
      go_enter Try.func8, Try.ntmps8
      have G0 := Below.refl w.heap.size w
      go_wp2_with fail
      refine (DrawStampLess_any _ _ _ _ w0).mono ?_
      rintro e w1 ⟨t, s, u, v, rfl, ht1, ht2, hs1, hs2, hu1, hu2, hv1, hv2, hb1⟩
      have G0 := below_after G0 hb1
      go_wp2_with fail
      have B1 := Blk.new w1 #[.int .i64 t, .int .i64 s] 26
      have G0 := below_alloc G0 (.cells #[.int .i64 t, .int .i64 s] 26)
      have B1 := B1.alloc (.cells #[.int .i64 u, .int .i64 v] 26)
      have B2 := Blk.new (w1.alloc (.cells #[.int .i64 t, .int .i64 s] 26)) #[.int .i64 u, .int .i64 v] 26
      simp only [World.size_alloc] at B2
      have G0 := below_alloc G0 (.cells #[.int .i64 u, .int .i64 v] 26)
      refine (DrawStampOk_any _ _ _ _ ((w1x.below hb1).below (below_box2 _ _ _))).mono ?_
      rintro e w2 ⟨p, r, rfl, hp1, hp2, hr1, hr2, hb2⟩
      have B1 := B1.below hb2 B1.lt
      have B2 := B2.below hb2 B2.lt
      have G0 := below_after G0 hb2
      go_wp2_with fail
      have B1 := B1.alloc (.cells #[.int .i64 p, .int .i64 r] 26)
      have B2 := B2.alloc (.cells #[.int .i64 p, .int .i64 r] 26)
      have B3 := Blk.new w2 #[.int .i64 p, .int .i64 r] 26
      have G0 := below_alloc G0 (.cells #[.int .i64 p, .int .i64 r] 26)
      obtain ⟨B1k0, B1k1, B1f, B1l⟩ := B1.two
      simp only [World.size_alloc] at B1l
      obtain ⟨B2k0, B2k1, B2f, B2l⟩ := B2.two
      simp only [World.size_alloc] at B2l
      obtain ⟨B3k0, B3k1, B3f, B3l⟩ := B3.two
      simp only [World.size_alloc] at B3l
      refine region_over (by kernel_rfl) (by kernel_rfl) ?_
      repeat (go_big_quiet_step (first | (go_at_call 17; exact quiet_over (stampLess_impl _ _ _ _ _)) | (go_at_call 15; exact quiet_over (stampLess_spec _ _ _ _ _))))
      refine wpQuiet_nil ?_
      intro w1 HB
      obtain ⟨hc, hf, hl, hle⟩ := bcell HB
      go_wp2_with (first | (go_at_call 17; refine (stampLess_impl _ _ _ _ _).mono ?_; rintro e w1 ⟨rfl, hb⟩; have HB := below_after HB hb; obtain ⟨hc, hf, hl, hle⟩ := bcell HB))
      all_goals
        go_ret
        refine ⟨congrArg (fun b => Ending.returned (Value.bool b)) ?_, below_after G0 HB⟩
        simp_all [stampLessB]
        try omega

end Go.Proofs.Ytegdkjppdiegdaa.fnStampChain
