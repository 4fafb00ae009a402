/- ServerStart is the reference's. Of every input that the given statement lets in. -/
import Derived.Test.YtiigdbmfpibbdaaOpenD
import Derived.Test.YtiigdbmfpibbdaaServerQ
namespace Go.Proofs.Ytiigdbmfpibbdaa.fnExactServerStart
open Go.ChangeShapes Go.WideShapes Go.ChangeAt Go.RowKit
set_option linter.unusedVariables false
theorem eqServer_len (site : Int) (a a' : Option Addr) (c c' : Nat) (w : World) (hr : Reads w a 3 c (stsC (startF site 3))) (hs : Reads w a' 3 c' (stsC (startF site 3))) :
    Calls Try.prog 32 #[.agg #[.int .i64 site, .bool true, .slice a 3 c, .slice none 0 0, .slice none 0 0, .slice none 0 0, .slice none 0 0], .agg #[.int .i64 site, .bool true, .slice a' 3 c', .slice none 0 0, .slice none 0 0, .slice none 0 0, .slice none 0 0]] w fun e w' => e = .returned (.bool true) ∧ Below w.heap.size w w' := by
  have h := eqServer_same site true (startF site 3) a a' c c' w (by rw [startF_len]; exact hr) (by rw [startF_len]; exact hs)
  rwa [startF_len] at h
theorem reads_noS (w : World) : Reads w none ([] : List (Int × Int)).length 0 (stsC []) := ⟨Nat.le_refl _, by simp, fun h => absurd rfl h⟩
theorem reads_noM (w : World) : Reads w none 0 0 (stsC (marksS 1 0)) := ⟨Nat.le_refl _, by simp, fun h => absurd rfl h⟩
set_option maxHeartbeats 2000000 in
theorem walk (n0 : Int) (w : World) (w0 : I64 n0) :
    Calls Try.prog 6 #[.int .i64 n0] w fun e w' => e = .returned (.bool true) ∧ Below w.heap.size w w' := by
  rcases hin : inB n0 0 3 with _ | _
  · skip
    have G0 := Below.refl w.heap.size w
    go_enter Try.func6, Try.ntmps6
    go_wp2_with fail
    refine (ServerStart_spec_no n0 _ hin).mono ?_
    rintro e w1 ⟨rfl, hb1⟩
    have G0 := below_after G0 hb1
    have BW := Blk.new w1 #[.int .i64 0, .bool false, .slice none 0 0, .slice none 0 0, .slice none 0 0, .slice none 0 0, .slice none 0 0] 46
    have hbBW := below_box w1 (.cells #[.int .i64 0, .bool false, .slice none 0 0, .slice none 0 0, .slice none 0 0, .slice none 0 0, .slice none 0 0] 46)
    have G0 := below_after G0 hbBW
    obtain ⟨BW0, BW1, BW2, BW3, BW4, BW5, BW6, BWf, BWl⟩ := BW.seven
    go_wp2_with fail
    refine (ServerStart_impl_no n0 _ hin).mono ?_
    rintro e w2 ⟨rfl, hb2⟩
    have BW := BW.below hb2 BW.lt
    have G0 := below_after G0 hb2
    have BG := Blk.new w2 #[.int .i64 0, .bool false, .slice none 0 0, .slice none 0 0, .slice none 0 0, .slice none 0 0, .slice none 0 0] 46
    have hbBG := below_box w2 (.cells #[.int .i64 0, .bool false, .slice none 0 0, .slice none 0 0, .slice none 0 0, .slice none 0 0, .slice none 0 0] 46)
    have BW := BW.alloc (.cells #[.int .i64 0, .bool false, .slice none 0 0, .slice none 0 0, .slice none 0 0, .slice none 0 0, .slice none 0 0] 46)
    have G0 := below_after G0 hbBG
    obtain ⟨BW0, BW1, BW2, BW3, BW4, BW5, BW6, BWf, BWl⟩ := BW.seven
    obtain ⟨BG0, BG1, BG2, BG3, BG4, BG5, BG6, BGf, BGl⟩ := BG.seven
    go_wp2_with fail
    refine (eqServer_same 0 false [] none none 0 0 _ (reads_noS _) (reads_noS _)).mono ?_
    rintro e w3 ⟨rfl, hb3⟩
    have BW := BW.below hb3 BW.lt
    have BG := BG.below hb3 BG.lt
    have G0 := below_after G0 hb3
    have ls3 := hb3.size
    obtain ⟨BW0, BW1, BW2, BW3, BW4, BW5, BW6, BWf, BWl⟩ := BW.seven
    obtain ⟨BG0, BG1, BG2, BG3, BG4, BG5, BG6, BGf, BGl⟩ := BG.seven
    go_wp2_with fail
    have own2 := World.ownsRow_nil w3 w3.heap.size 101 2
    refine (markServer_laws 0 false 0 1 none 0 w3.heap.size [] _ own2 (by omega) (by omega) (by omega)).mono ?_
    rintro e w4 ⟨rfl, mk4, hg4⟩
    have hb4 : Below w3.heap.size w3 w4 := ⟨hg4.os, hg4.tape, hg4.output, hg4.size, fun i hi => hg4.block i hi (by simp [Value.ownBlock])⟩
    have BW := BW.below hb4 BW.lt
    have BG := BG.below hb4 BG.lt
    have G0 := below_after G0 hb4
    obtain ⟨BW0, BW1, BW2, BW3, BW4, BW5, BW6, BWf, BWl⟩ := BW.seven
    obtain ⟨BG0, BG1, BG2, BG3, BG4, BG5, BG6, BGf, BGl⟩ := BG.seven
    go_wp2_with fail
    refine (heldServer_laws 0 false 0 1 none 0 _ (reads_noM _) (by omega) (by omega) (by omega)).mono ?_
    rintro e w5 ⟨rfl, hb5⟩
    have BW := BW.below hb5 BW.lt
    have BG := BG.below hb5 BG.lt
    have G0 := below_after G0 hb5
    have ls5 := hb5.size
    obtain ⟨BW0, BW1, BW2, BW3, BW4, BW5, BW6, BWf, BWl⟩ := BW.seven
    obtain ⟨BG0, BG1, BG2, BG3, BG4, BG5, BG6, BGf, BGl⟩ := BG.seven
    go_wp2_with fail
    refine (ServerStart_impl_no n0 _ hin).mono ?_
    rintro e w6 ⟨rfl, hb6⟩
    have BW := BW.below hb6 BW.lt
    have BG := BG.below hb6 BG.lt
    have G0 := below_after G0 hb6
    have BH := Blk.new w6 #[.int .i64 0, .bool false, .slice none 0 0, .slice none 0 0, .slice none 0 0, .slice none 0 0, .slice none 0 0] 46
    have hbBH := below_box w6 (.cells #[.int .i64 0, .bool false, .slice none 0 0, .slice none 0 0, .slice none 0 0, .slice none 0 0, .slice none 0 0] 46)
    have BW := BW.alloc (.cells #[.int .i64 0, .bool false, .slice none 0 0, .slice none 0 0, .slice none 0 0, .slice none 0 0, .slice none 0 0] 46)
    have BG := BG.alloc (.cells #[.int .i64 0, .bool false, .slice none 0 0, .slice none 0 0, .slice none 0 0, .slice none 0 0, .slice none 0 0] 46)
    have G0 := below_after G0 hbBH
    obtain ⟨BW0, BW1, BW2, BW3, BW4, BW5, BW6, BWf, BWl⟩ := BW.seven
    obtain ⟨BG0, BG1, BG2, BG3, BG4, BG5, BG6, BGf, BGl⟩ := BG.seven
    obtain ⟨BH0, BH1, BH2, BH3, BH4, BH5, BH6, BHf, BHl⟩ := BH.seven
    go_wp2_with fail
    refine (eqServer_same 0 false [] none none 0 0 _ (reads_noS _) (reads_noS _)).mono ?_
    rintro e w7 ⟨rfl, hb7⟩
    have BW := BW.below hb7 BW.lt
    have BG := BG.below hb7 BG.lt
    have BH := BH.below hb7 BH.lt
    have G0 := below_after G0 hb7
    have ls7 := hb7.size
    obtain ⟨BW0, BW1, BW2, BW3, BW4, BW5, BW6, BWf, BWl⟩ := BW.seven
    obtain ⟨BG0, BG1, BG2, BG3, BG4, BG5, BG6, BGf, BGl⟩ := BG.seven
    obtain ⟨BH0, BH1, BH2, BH3, BH4, BH5, BH6, BHf, BHl⟩ := BH.seven
    go_wp2_with fail
    refine (heldServer_laws 0 false 0 1 none 0 _ (reads_noM _) (by omega) (by omega) (by omega)).mono ?_
    rintro e w8 ⟨rfl, hb8⟩
    have BW := BW.below hb8 BW.lt
    have BG := BG.below hb8 BG.lt
    have BH := BH.below hb8 BH.lt
    have G0 := below_after G0 hb8
    have ls8 := hb8.size
    go_wp2
    go_ret
    exact ⟨rfl, G0⟩
  · skip
    have G0 := Below.refl w.heap.size w
    have hl3 := startF_len n0 3
    have HL := Lib.hid hl3
    clear hl3
    go_enter Try.func6, Try.ntmps6
    go_wp2_with fail
    have sz1 := G0.size
    refine (ServerStart_spec n0 _ hin).mono ?_
    rintro e w1 ⟨p1, c1, rfl, own1, hb1⟩
    have G0 := below_after G0 hb1
    have first1 := own1
    have ls1 := hb1.size
    have BW := Blk.new w1 #[.int .i64 n0, .bool true, .slice p1 3 c1, .slice none 0 0, .slice none 0 0, .slice none 0 0, .slice none 0 0] 46
    have hbBW := below_box w1 (.cells #[.int .i64 n0, .bool true, .slice p1 3 c1, .slice none 0 0, .slice none 0 0, .slice none 0 0, .slice none 0 0] 46)
    have own1 := own_below own1 hbBW
    have G0 := below_after G0 hbBW
    obtain ⟨BW0, BW1, BW2, BW3, BW4, BW5, BW6, BWf, BWl⟩ := BW.seven
    go_wp2_with fail
    have sz2 := G0.size
    refine (ServerStart_impl n0 _ hin).mono ?_
    rintro e w2 ⟨p2, c2, rfl, own2, hb2⟩
    have own1 := own_below own1 hb2
    have BW := BW.below hb2 BW.lt
    have G0 := below_after G0 hb2
    have first2 := own2
    have ls2 := hb2.size
    have BG := Blk.new w2 #[.int .i64 n0, .bool true, .slice p2 3 c2, .slice none 0 0, .slice none 0 0, .slice none 0 0, .slice none 0 0] 46
    have hbBG := below_box w2 (.cells #[.int .i64 n0, .bool true, .slice p2 3 c2, .slice none 0 0, .slice none 0 0, .slice none 0 0, .slice none 0 0] 46)
    have BW := BW.alloc (.cells #[.int .i64 n0, .bool true, .slice p2 3 c2, .slice none 0 0, .slice none 0 0, .slice none 0 0, .slice none 0 0] 46)
    have own1 := own_below own1 hbBG
    have own2 := own_below own2 hbBG
    have G0 := below_after G0 hbBG
    obtain ⟨BW0, BW1, BW2, BW3, BW4, BW5, BW6, BWf, BWl⟩ := BW.seven
    obtain ⟨BG0, BG1, BG2, BG3, BG4, BG5, BG6, BGf, BGl⟩ := BG.seven
    go_wp2_with fail
    refine (eqServer_len n0 p2 p1 c2 c1 _ (Reads.own own2) (Reads.own own1)).mono ?_
    rintro e w3 ⟨rfl, hb3⟩
    have own1 := own_below own1 hb3
    have own2 := own_below own2 hb3
    have BW := BW.below hb3 BW.lt
    have BG := BG.below hb3 BG.lt
    have G0 := below_after G0 hb3
    have ls3 := hb3.size
    obtain ⟨BW0, BW1, BW2, BW3, BW4, BW5, BW6, BWf, BWl⟩ := BW.seven
    obtain ⟨BG0, BG1, BG2, BG3, BG4, BG5, BG6, BGf, BGl⟩ := BG.seven
    go_wp2_with fail
    have own_blkBW : (Value.slice p2 3 c2).ownBlock ≠ some w1.heap.size := own_ne' first2 (by simp)
    have own_blkBG : (Value.slice p2 3 c2).ownBlock ≠ some w2.heap.size := own_ne first2 (Nat.le_refl _)
    refine (markServer_laws n0 true 3 1 p2 c2 _ _ _ own2 (by omega) (by omega) (by omega)).mono ?_
    rintro e w4 ⟨rfl, mk4, hg4⟩
    have own1 := own1.kept hg4 (own_apart first1 first2 (by omega))
    have BW := BW.row hg4 (own_blkBW)
    have BG := BG.row hg4 (own_blkBG)
    have G0 := below_mark G0 own2 hg4 (by omega)
    have ls4 := hg4.size
    have own2 := mk4
    obtain ⟨BW0, BW1, BW2, BW3, BW4, BW5, BW6, BWf, BWl⟩ := BW.seven
    obtain ⟨BG0, BG1, BG2, BG3, BG4, BG5, BG6, BGf, BGl⟩ := BG.seven
    go_wp2_with fail
    refine (heldServer_laws n0 true 3 1 p2 c2 _ (Reads.own own2) (by omega) (by omega) (by omega)).mono ?_
    rintro e w5 ⟨rfl, hb5⟩
    have own1 := own_below own1 hb5
    have own2 := own_below own2 hb5
    have BW := BW.below hb5 BW.lt
    have BG := BG.below hb5 BG.lt
    have G0 := below_after G0 hb5
    have ls5 := hb5.size
    obtain ⟨BW0, BW1, BW2, BW3, BW4, BW5, BW6, BWf, BWl⟩ := BW.seven
    obtain ⟨BG0, BG1, BG2, BG3, BG4, BG5, BG6, BGf, BGl⟩ := BG.seven
    go_wp2_with fail
    have sz6 := G0.size
    refine (ServerStart_impl n0 _ hin).mono ?_
    rintro e w6 ⟨p6, c6, rfl, own6, hb6⟩
    have own1 := own_below own1 hb6
    have own2 := own_below own2 hb6
    have BW := BW.below hb6 BW.lt
    have BG := BG.below hb6 BG.lt
    have G0 := below_after G0 hb6
    have first6 := own6
    have ls6 := hb6.size
    have BH := Blk.new w6 #[.int .i64 n0, .bool true, .slice p6 3 c6, .slice none 0 0, .slice none 0 0, .slice none 0 0, .slice none 0 0] 46
    have hbBH := below_box w6 (.cells #[.int .i64 n0, .bool true, .slice p6 3 c6, .slice none 0 0, .slice none 0 0, .slice none 0 0, .slice none 0 0] 46)
    have BW := BW.alloc (.cells #[.int .i64 n0, .bool true, .slice p6 3 c6, .slice none 0 0, .slice none 0 0, .slice none 0 0, .slice none 0 0] 46)
    have BG := BG.alloc (.cells #[.int .i64 n0, .bool true, .slice p6 3 c6, .slice none 0 0, .slice none 0 0, .slice none 0 0, .slice none 0 0] 46)
    have own1 := own_below own1 hbBH
    have own2 := own_below own2 hbBH
    have own6 := own_below own6 hbBH
    have G0 := below_after G0 hbBH
    obtain ⟨BW0, BW1, BW2, BW3, BW4, BW5, BW6, BWf, BWl⟩ := BW.seven
    obtain ⟨BG0, BG1, BG2, BG3, BG4, BG5, BG6, BGf, BGl⟩ := BG.seven
    obtain ⟨BH0, BH1, BH2, BH3, BH4, BH5, BH6, BHf, BHl⟩ := BH.seven
    go_wp2_with fail
    refine (eqServer_len n0 p6 p1 c6 c1 _ (Reads.own own6) (Reads.own own1)).mono ?_
    rintro e w7 ⟨rfl, hb7⟩
    have own1 := own_below own1 hb7
    have own2 := own_below own2 hb7
    have own6 := own_below own6 hb7
    have BW := BW.below hb7 BW.lt
    have BG := BG.below hb7 BG.lt
    have BH := BH.below hb7 BH.lt
    have G0 := below_after G0 hb7
    have ls7 := hb7.size
    obtain ⟨BW0, BW1, BW2, BW3, BW4, BW5, BW6, BWf, BWl⟩ := BW.seven
    obtain ⟨BG0, BG1, BG2, BG3, BG4, BG5, BG6, BGf, BGl⟩ := BG.seven
    obtain ⟨BH0, BH1, BH2, BH3, BH4, BH5, BH6, BHf, BHl⟩ := BH.seven
    go_wp2_with fail
    refine (heldServer_laws n0 true 3 1 p2 c2 _ (Reads.own own2) (by omega) (by omega) (by omega)).mono ?_
    rintro e w8 ⟨rfl, hb8⟩
    have own1 := own_below own1 hb8
    have own2 := own_below own2 hb8
    have own6 := own_below own6 hb8
    have BW := BW.below hb8 BW.lt
    have BG := BG.below hb8 BG.lt
    have BH := BH.below hb8 BH.lt
    have G0 := below_after G0 hb8
    have ls8 := hb8.size
    go_wp2
    go_ret
    exact ⟨rfl, G0⟩

set_option maxRecDepth 100000 in
theorem lifted (os : Os) (started : os.Started) (H : Type) (enc : TypeId × Value → H) :
    ReturnsInHanded {} Try.checked os 6 .any (Rows.fnExactServerStartSpec.pre6 enc Try.prog Try.f6 Rows.fnExactServerStartRow.domain false) (Rows.fnExactServerStartSpec.post enc Try.prog Try.f6 false true false false) := by
  refine returnsInHanded_of_change (C := Try.checked) own started (by kernel_rfl) Try.func6
    (ChangeSpec.witness6 (enc := enc) (C := Try.checked) false ⟨#[], #[.int .i64 0], []⟩ 8 (by kernel_rfl) (by kernel_rfl) (by kernel_rfl) (by kernel_rfl)) ?_
  intro W base args ds gs before hval0 hW hcnd _
  have hval : ∀ (j : Nat) t v, Try.f6.params[j]? = some t → args[j]? = some v → Value.okWide Try.prog W .any base t v := hval0
  have hW' := hW
  obtain ⟨p, q, hA0, hV, rfl, hfz, hnd⟩ := hW
  have hA : DataW.TrodAll enc Try.prog W 0 (fun _ => true) true Try.f6.params.toList args.toList ds p := hA0
  rw [Try.params6] at hA hval
  obtain ⟨v0, vs0, d0, ds0, p0, q0, hargs, rfl, rfl, h0, r0⟩ := trodAll_cons hA
  obtain ⟨rfl, rfl, rfl⟩ := trodAll_nil r0
  obtain rfl : args = #[v0] := by cases args; simp_all
  obtain ⟨rfl, rfl⟩ := trodVars_none hV
  have lt0 : ∀ x ∈ p0, x.block < W.heap.size := by obtain ⟨m, hm⟩ := h0; exact DataW.trod_lt m _ _ _ hm
  obtain ⟨n0, rfl, w0⟩ := int_of Try.underlying3 (hval 0 3 v0 rfl rfl) h0
  clear hA0 hval0
  refine (walk n0 W w0).mono fun e W' ⟨he, bel⟩ => ?_
  subst he
  exact ⟨_, rfl, _, _, _, [], _, [], hW', trodAll_mk1 (shut_bool Try.underlying4 _), (trodAll_cons_mk (Below.trod laidOut (by kernel_rfl) (of_decide_eq_true (by kernel_rfl)) h0 bel lt0) trodAll_mk0), rfl, bel.frame _, fun h => by cases h⟩

theorem over_row : Rows.fnExactServerStartRow.holds Try.pinned (OpenSpec.ofChange Rows.fnExactServerStartSpec) :=
  OpenClaim.holds_of_wide 6 Try.f6 rfl rfl rfl rfl rfl rfl rfl ⟨rfl, rfl, rfl, rfl, rfl⟩ rfl rfl rfl rfl rfl (by kernel_rfl) Try.func6 (by kernel_rfl)
    (of_decide_eq_true (by kernel_rfl)) (by unfold Func.isWrapper; first | (rw [if_pos (by decide +kernel)]; kernel_rfl) | (rw [if_neg (by decide +kernel)]; exact ⟨rfl, rfl⟩))
    (fun os started H enc _ => lifted os started H enc)

/-- The statement. -/
theorem proved : Rows.FnExactServerStartSaid := over_row
end Go.Proofs.Ytiigdbmfpibbdaa.fnExactServerStart
