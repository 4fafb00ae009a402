/- DepsJoin is the reference's. Of every input that the given statement lets in. -/
import Derived.Test.YtiigdbmfpibbdaaOpenD
import Derived.Test.YtiigdbmfpibbdaaConvD
import Derived.Test.YtiigdbmfpibbdaaDepsO
namespace Go.Proofs.Ytiigdbmfpibbdaa.fnExactDepsJoin
open Go.ChangeShapes Go.WideShapes Go.ChangeAt Go.RowKit
set_option linter.unusedVariables false

set_option maxHeartbeats 2000000 in
theorem walk (a0 : Option Addr) (k0 : Nat) (z0 : List Dp) (a1 : Option Addr) (k1 : Nat) (z1 : List Dp) (w : World) (w0 : Reads w a0 z0.length k0 (dpsC z0)) (w1 : Reads w a1 z1.length k1 (dpsC z1)) :
    Calls Try.prog 4 #[.slice a0 z0.length k0, .slice a1 z1.length k1] w fun e w' => e = .returned (.bool true) ∧ Below w.heap.size w w' := by
  have w0x := w0
  have w1x := w1
  clear w0 w1
  have hcap : z0.length ≤ maxLen := by obtain ⟨h1, h2, _⟩ := w0x; omega
  have hcap1 : z1.length ≤ maxLen := by obtain ⟨h1, h2, _⟩ := w1x; omega
  go_enter Try.func4, Try.ntmps4
  go_wp2_with fail
  refine (szDepS_laws z0.length 1048576 a0 k0 _ (by omega) (by omega) hcap).mono ?_
  rintro e w' ⟨rfl, rfl⟩
  by_cases hbig : (1048576 : Int) < (z0.length : Int)
  · have hz : szR 1048576 z0.length = -1 := by rw [szR, if_pos hbig]
    go_wp2
    go_ret
    exact ⟨rfl, Below.refl _ _⟩
  · have hz : szR 1048576 z0.length = 1048576 - (z0.length : Int) := by rw [szR, if_neg hbig]
    have hge : (0 : Int) ≤ szR 1048576 z0.length := by omega
    have hle : szR 1048576 z0.length ≤ 1048576 := by omega
    clear hz
    go_wp2_with fail
    refine (szDepS_laws z1.length (szR 1048576 z0.length) a1 k1 _ hge hle hcap1).mono ?_
    rintro e w' ⟨rfl, rfl⟩
    by_cases hbih : szR 1048576 z0.length < (z1.length : Int)
    · have hz : szR (szR 1048576 z0.length) z1.length = -1 := by rw [szR, if_pos hbih]
      go_wp2
      go_ret
      exact ⟨rfl, Below.refl _ _⟩
    · have hge2 : (0 : Int) ≤ szR (szR 1048576 z0.length) z1.length := by rw [szR, if_neg hbih]; omega
      have hn1 : z1.length ≤ 1048576 := by omega
      have hn0 : z0.length ≤ 1048576 := by omega
      clear hbig hbih hge hle
      have G0 := Below.refl w.heap.size w
      have hR1 := joinR_len z0 z1
      go_wp2_with fail
      have sz1 := G0.size
      refine (toDepS_laws z0 a0 k0 _ (w0x.below G0) (by omega)).mono ?_
      rintro e w1 ⟨v1, rfl, own1, hb1⟩
      obtain ⟨p1, c1, rfl, rd1⟩ := Reads.of_owns own1
      have G0 := below_after G0 hb1
      have first1 := own1
      have ls1 := hb1.size
      go_wp2_with fail
      have sz2 := G0.size
      refine (toDepS_laws z1 a1 k1 _ (w1x.below G0) (by omega)).mono ?_
      rintro e w2 ⟨v2, rfl, own2, hb2⟩
      obtain ⟨p2, c2, rfl, rd2⟩ := Reads.of_owns own2
      have own1 := own_below own1 hb2
      have G0 := below_after G0 hb2
      have first2 := own2
      have ls2 := hb2.size
      go_wp2_with fail
      have sz3 := G0.size
      refine (DepsJoin_spec z0 z1 p1 p2 c1 c2 _ (Reads.own own1) (Reads.own own2) (by omega) (by omega)).mono ?_
      rintro e w3 ⟨v3, rfl, own3, hb3⟩
      obtain ⟨p3, c3, rfl, rd3⟩ := Reads.of_owns own3
      have own1 := own_below own1 hb3
      have own2 := own_below own2 hb3
      have G0 := below_after G0 hb3
      have first3 := own3
      have ls3 := hb3.size
      go_wp2_with fail
      have sz4 := G0.size
      refine (toDepS_laws z0 a0 k0 _ (w0x.below G0) (by omega)).mono ?_
      rintro e w4 ⟨v4, rfl, own4, hb4⟩
      obtain ⟨p4, c4, rfl, rd4⟩ := Reads.of_owns own4
      have own1 := own_below own1 hb4
      have own2 := own_below own2 hb4
      have own3 := own_below own3 hb4
      have G0 := below_after G0 hb4
      have first4 := own4
      have ls4 := hb4.size
      go_wp2_with fail
      have sz5 := G0.size
      refine (toDepS_laws z1 a1 k1 _ (w1x.below G0) (by omega)).mono ?_
      rintro e w5 ⟨v5, rfl, own5, hb5⟩
      obtain ⟨p5, c5, rfl, rd5⟩ := Reads.of_owns own5
      have own1 := own_below own1 hb5
      have own2 := own_below own2 hb5
      have own3 := own_below own3 hb5
      have own4 := own_below own4 hb5
      have G0 := below_after G0 hb5
      have first5 := own5
      have ls5 := hb5.size
      go_wp2_with fail
      have sz6 := G0.size
      refine (DepsJoin_impl z0 z1 p4 p5 c4 c5 _ (Reads.own own4) (Reads.own own5) (by omega) (by omega)).mono ?_
      rintro e w6 ⟨v6, rfl, own6, hb6⟩
      obtain ⟨p6, c6, rfl, rd6⟩ := Reads.of_owns own6
      have own1 := own_below own1 hb6
      have own2 := own_below own2 hb6
      have own3 := own_below own3 hb6
      have own4 := own_below own4 hb6
      have own5 := own_below own5 hb6
      have G0 := below_after G0 hb6
      have first6 := own6
      have ls6 := hb6.size
      go_wp2_with fail
      refine (eqDepS_same (joinR z0 z1) p6 p3 c6 c3 _ (Reads.own own6) (Reads.own own3)).mono ?_
      rintro e w7 ⟨rfl, hb7⟩
      have own1 := own_below own1 hb7
      have own2 := own_below own2 hb7
      have own3 := own_below own3 hb7
      have own4 := own_below own4 hb7
      have own5 := own_below own5 hb7
      have own6 := own_below own6 hb7
      have G0 := below_after G0 hb7
      have ls7 := hb7.size
      go_wp2_with fail
      have sz8 := G0.size
      refine (toDepS_laws z0 a0 k0 _ (w0x.below G0) (by omega)).mono ?_
      rintro e w8 ⟨v8, rfl, own8, hb8⟩
      obtain ⟨p8, c8, rfl, rd8⟩ := Reads.of_owns own8
      have own1 := own_below own1 hb8
      have own2 := own_below own2 hb8
      have own3 := own_below own3 hb8
      have own4 := own_below own4 hb8
      have own5 := own_below own5 hb8
      have own6 := own_below own6 hb8
      have G0 := below_after G0 hb8
      have first8 := own8
      have ls8 := hb8.size
      go_wp2_with fail
      refine (eqDepS_same z0 p4 p8 c4 c8 _ (Reads.own own4) (Reads.own own8)).mono ?_
      rintro e w9 ⟨rfl, hb9⟩
      have own1 := own_below own1 hb9
      have own2 := own_below own2 hb9
      have own3 := own_below own3 hb9
      have own4 := own_below own4 hb9
      have own5 := own_below own5 hb9
      have own6 := own_below own6 hb9
      have own8 := own_below own8 hb9
      have G0 := below_after G0 hb9
      have ls9 := hb9.size
      go_wp2_with fail
      have sz10 := G0.size
      refine (toDepS_laws z1 a1 k1 _ (w1x.below G0) (by omega)).mono ?_
      rintro e w10 ⟨v10, rfl, own10, hb10⟩
      obtain ⟨p10, c10, rfl, rd10⟩ := Reads.of_owns own10
      have own1 := own_below own1 hb10
      have own2 := own_below own2 hb10
      have own3 := own_below own3 hb10
      have own4 := own_below own4 hb10
      have own5 := own_below own5 hb10
      have own6 := own_below own6 hb10
      have own8 := own_below own8 hb10
      have G0 := below_after G0 hb10
      have first10 := own10
      have ls10 := hb10.size
      go_wp2_with fail
      refine (eqDepS_same z1 p5 p10 c5 c10 _ (Reads.own own5) (Reads.own own10)).mono ?_
      rintro e w11 ⟨rfl, hb11⟩
      have own1 := own_below own1 hb11
      have own2 := own_below own2 hb11
      have own3 := own_below own3 hb11
      have own4 := own_below own4 hb11
      have own5 := own_below own5 hb11
      have own6 := own_below own6 hb11
      have own8 := own_below own8 hb11
      have own10 := own_below own10 hb11
      have G0 := below_after G0 hb11
      have ls11 := hb11.size
      go_wp2_with fail
      refine (markDepS_laws z0.length 1 p4 c4 _ _ _ own4 (by omega) (by omega) (by omega)).mono ?_
      rintro e w12 ⟨rfl, mk12, hg12⟩
      have own1 := own1.kept hg12 (own_apart first1 first4 (by omega))
      have own2 := own2.kept hg12 (own_apart first2 first4 (by omega))
      have own3 := own3.kept hg12 (own_apart first3 first4 (by omega))
      have own5 := own5.kept hg12 (own_apart' first4 first5 (by omega))
      have own6 := own6.kept hg12 (own_apart' first4 first6 (by omega))
      have own8 := own8.kept hg12 (own_apart' first4 first8 (by omega))
      have own10 := own10.kept hg12 (own_apart' first4 first10 (by omega))
      have G0 := below_mark G0 own4 hg12 (by omega)
      have ls12 := hg12.size
      have own4 := mk12
      go_wp2_with fail
      refine (markDepS_laws z1.length (1 + 3 * (z0.length : Int)) p5 c5 _ _ _ own5 (by omega) (by omega) (by omega)).mono ?_
      rintro e w13 ⟨rfl, mk13, hg13⟩
      have own1 := own1.kept hg13 (own_apart first1 first5 (by omega))
      have own2 := own2.kept hg13 (own_apart first2 first5 (by omega))
      have own3 := own3.kept hg13 (own_apart first3 first5 (by omega))
      have own4 := own4.kept hg13 (own_apart first4 first5 (by omega))
      have own6 := own6.kept hg13 (own_apart' first5 first6 (by omega))
      have own8 := own8.kept hg13 (own_apart' first5 first8 (by omega))
      have own10 := own10.kept hg13 (own_apart' first5 first10 (by omega))
      have G0 := below_mark G0 own5 hg13 (by omega)
      have ls13 := hg13.size
      have own5 := mk13
      go_wp2_with fail
      refine (eqDepS_same (joinR z0 z1) p6 p3 c6 c3 _ (Reads.own own6) (Reads.own own3)).mono ?_
      rintro e w14 ⟨rfl, hb14⟩
      have own1 := own_below own1 hb14
      have own2 := own_below own2 hb14
      have own3 := own_below own3 hb14
      have own4 := own_below own4 hb14
      have own5 := own_below own5 hb14
      have own6 := own_below own6 hb14
      have own8 := own_below own8 hb14
      have own10 := own_below own10 hb14
      have G0 := below_after G0 hb14
      have ls14 := hb14.size
      go_wp2_with fail
      refine (markDepS_laws (joinR z0 z1).length 1 p6 c6 _ _ _ own6 (by omega) (by omega) (by omega)).mono ?_
      rintro e w15 ⟨rfl, mk15, hg15⟩
      have own1 := own1.kept hg15 (own_apart first1 first6 (by omega))
      have own2 := own2.kept hg15 (own_apart first2 first6 (by omega))
      have own3 := own3.kept hg15 (own_apart first3 first6 (by omega))
      have own4 := own4.kept hg15 (own_apart first4 first6 (by omega))
      have own5 := own5.kept hg15 (own_apart first5 first6 (by omega))
      have own8 := own8.kept hg15 (own_apart' first6 first8 (by omega))
      have own10 := own10.kept hg15 (own_apart' first6 first10 (by omega))
      have G0 := below_mark G0 own6 hg15 (by omega)
      have ls15 := hg15.size
      have own6 := mk15
      go_wp2_with fail
      refine (heldDepS_laws (joinR z0 z1).length 1 p6 c6 _ (Reads.own own6) (by omega) (by omega) (by omega)).mono ?_
      rintro e w' ⟨rfl, rfl⟩
      go_wp2_with fail
      have sz16 := G0.size
      refine (toDepS_laws z0 a0 k0 _ (w0x.below G0) (by omega)).mono ?_
      rintro e w16 ⟨v16, rfl, own16, hb16⟩
      obtain ⟨p16, c16, rfl, rd16⟩ := Reads.of_owns own16
      have own1 := own_below own1 hb16
      have own2 := own_below own2 hb16
      have own3 := own_below own3 hb16
      have own4 := own_below own4 hb16
      have own5 := own_below own5 hb16
      have own6 := own_below own6 hb16
      have own8 := own_below own8 hb16
      have own10 := own_below own10 hb16
      have G0 := below_after G0 hb16
      have first16 := own16
      have ls16 := hb16.size
      go_wp2_with fail
      have sz17 := G0.size
      refine (toDepS_laws z1 a1 k1 _ (w1x.below G0) (by omega)).mono ?_
      rintro e w17 ⟨v17, rfl, own17, hb17⟩
      obtain ⟨p17, c17, rfl, rd17⟩ := Reads.of_owns own17
      have own1 := own_below own1 hb17
      have own2 := own_below own2 hb17
      have own3 := own_below own3 hb17
      have own4 := own_below own4 hb17
      have own5 := own_below own5 hb17
      have own6 := own_below own6 hb17
      have own8 := own_below own8 hb17
      have own10 := own_below own10 hb17
      have own16 := own_below own16 hb17
      have G0 := below_after G0 hb17
      have first17 := own17
      have ls17 := hb17.size
      go_wp2_with fail
      have sz18 := G0.size
      refine (DepsJoin_impl z0 z1 p16 p17 c16 c17 _ (Reads.own own16) (Reads.own own17) (by omega) (by omega)).mono ?_
      rintro e w18 ⟨v18, rfl, own18, hb18⟩
      obtain ⟨p18, c18, rfl, rd18⟩ := Reads.of_owns own18
      have own1 := own_below own1 hb18
      have own2 := own_below own2 hb18
      have own3 := own_below own3 hb18
      have own4 := own_below own4 hb18
      have own5 := own_below own5 hb18
      have own6 := own_below own6 hb18
      have own8 := own_below own8 hb18
      have own10 := own_below own10 hb18
      have own16 := own_below own16 hb18
      have own17 := own_below own17 hb18
      have G0 := below_after G0 hb18
      have first18 := own18
      have ls18 := hb18.size
      go_wp2_with fail
      refine (eqDepS_same (joinR z0 z1) p18 p3 c18 c3 _ (Reads.own own18) (Reads.own own3)).mono ?_
      rintro e w19 ⟨rfl, hb19⟩
      have own1 := own_below own1 hb19
      have own2 := own_below own2 hb19
      have own3 := own_below own3 hb19
      have own4 := own_below own4 hb19
      have own5 := own_below own5 hb19
      have own6 := own_below own6 hb19
      have own8 := own_below own8 hb19
      have own10 := own_below own10 hb19
      have own16 := own_below own16 hb19
      have own17 := own_below own17 hb19
      have own18 := own_below own18 hb19
      have G0 := below_after G0 hb19
      have ls19 := hb19.size
      go_wp2_with fail
      refine (heldDepS_laws (joinR z0 z1).length 1 p6 c6 _ (Reads.own own6) (by omega) (by omega) (by omega)).mono ?_
      rintro e w' ⟨rfl, rfl⟩
      go_wp2_with fail
      go_ret
      exact ⟨rfl, G0⟩

set_option maxRecDepth 100000 in
theorem lifted (os : Os) (started : os.Started) (H : Type) (enc : TypeId × Value → H) :
    ReturnsInHanded {} Try.checked os 4 .any (Rows.fnExactDepsJoinSpec.pre6 enc Try.prog Try.f4 Rows.fnExactDepsJoinRow.domain false) (Rows.fnExactDepsJoinSpec.post enc Try.prog Try.f4 false true false false) := by
  refine returnsInHanded_of_change (C := Try.checked) own started (by kernel_rfl) Try.func4
    (ChangeSpec.witness6 (enc := enc) (C := Try.checked) false ⟨#[], #[.slice none 0 0, .slice none 0 0], []⟩ 8 (by kernel_rfl) (by kernel_rfl) (by kernel_rfl) (by kernel_rfl)) ?_
  intro W base args ds gs before hval0 hW hcnd _
  have hval : ∀ (j : Nat) t v, Try.f4.params[j]? = some t → args[j]? = some v → Value.okWide Try.prog W .any base t v := hval0
  have hW' := hW
  obtain ⟨p, q, hA0, hV, rfl, hfz, hnd⟩ := hW
  have hA : DataW.TrodAll enc Try.prog W 0 (fun _ => true) true Try.f4.params.toList args.toList ds p := hA0
  rw [Try.params4] at hA hval
  obtain ⟨v0, vs0, d0, ds0, p0, q0, hargs, rfl, rfl, h0, r0⟩ := trodAll_cons hA
  obtain ⟨v1, vs1, d1, ds1, p1, q1, rfl, rfl, rfl, h1, r1⟩ := trodAll_cons r0
  obtain ⟨rfl, rfl, rfl⟩ := trodAll_nil r1
  obtain rfl : args = #[v0, v1] := by cases args; simp_all
  obtain ⟨rfl, rfl⟩ := trodVars_none hV
  have lt0 : ∀ x ∈ p0, x.block < W.heap.size := by obtain ⟨m, hm⟩ := h0; exact DataW.trod_lt m _ _ _ hm
  obtain ⟨_, _, _, _, hD0⟩ := isDepL
  obtain ⟨a0, k0, z0, rfl, w0⟩ := deps_of Try.underlying36 hD0 (hval 0 36 v0 rfl rfl) h0
  have lt1 : ∀ x ∈ p1, x.block < W.heap.size := by obtain ⟨m, hm⟩ := h1; exact DataW.trod_lt m _ _ _ hm
  obtain ⟨_, _, _, _, hD1⟩ := isDepL
  obtain ⟨a1, k1, z1, rfl, w1⟩ := deps_of Try.underlying36 hD1 (hval 1 36 v1 rfl rfl) h1
  clear hA0 hval0
  refine (walk a0 k0 z0 a1 k1 z1 W w0 w1).mono fun e W' ⟨he, bel⟩ => ?_
  subst he
  exact ⟨_, rfl, _, _, _, [], _, [], hW', trodAll_mk1 (shut_bool Try.underlying4 _), (trodAll_cons_mk (Below.trod laidOut (by kernel_rfl) (of_decide_eq_true (by kernel_rfl)) h0 bel lt0) (trodAll_cons_mk (Below.trod laidOut (by kernel_rfl) (of_decide_eq_true (by kernel_rfl)) h1 bel lt1) trodAll_mk0)), rfl, bel.frame _, fun h => by cases h⟩

theorem over_row : Rows.fnExactDepsJoinRow.holds Try.pinned (OpenSpec.ofChange Rows.fnExactDepsJoinSpec) :=
  OpenClaim.holds_of_wide 4 Try.f4 rfl rfl rfl rfl rfl rfl rfl ⟨rfl, rfl, rfl, rfl, rfl⟩ rfl rfl rfl rfl rfl (by kernel_rfl) Try.func4 (by kernel_rfl)
    (of_decide_eq_true (by kernel_rfl)) (by unfold Func.isWrapper; first | (rw [if_pos (by decide +kernel)]; kernel_rfl) | (rw [if_neg (by decide +kernel)]; exact ⟨rfl, rfl⟩))
    (fun os started H enc _ => lifted os started H enc)

/-- The statement. -/
theorem proved : Rows.FnExactDepsJoinSaid := over_row
end Go.Proofs.Ytiigdbmfpibbdaa.fnExactDepsJoin
