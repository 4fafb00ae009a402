/- DepsPut is the reference's. Of every input that the given statement lets in. -/
import Derived.Test.YtfibddeafddjoaaOpenD
import Derived.Test.YtfibddeafddjoaaConvD
import Derived.Test.YtfibddeafddjoaaPutW2
import Derived.Deep.RegionHeld3
namespace Go.Proofs.Ytfibddeafddjoaa.fnExactDepsPut
open Go.ChangeShapes Go.WideShapes Go.ChangeAt Go.RowKit
set_option linter.unusedVariables false
theorem putR_len (l : List Dp) (d : Dp) : (putR l d).length ≤ l.length + 1 := by
  unfold putR; split
  · exact putF_len l d
  · simp
set_option maxHeartbeats 2000000 in
theorem walk (a0 : Option Addr) (k0 : Nat) (z0 : List Dp) (x1 : Dp) (w : World) (w0 : Reads w a0 z0.length k0 (dpsC z0)) (w1 : I64 x1.1) :
    Calls Try.prog 12 #[.slice a0 z0.length k0, .agg #[.int .i64 x1.1, .int .i64 x1.2.1, .int .i64 x1.2.2]] w fun e w' => e = .returned (.bool true) ∧ Below w.heap.size w w' := by
  have w0x := w0
  clear w0
  have hcap : z0.length ≤ maxLen := by obtain ⟨h1, h2, _⟩ := w0x; omega
  by_cases hbig : (1048576 : Int) < (z0.length : Int)
  · have hz : szR 1048576 z0.length = -1 := by rw [szR, if_pos hbig]
    go_enter Try.func12, Try.ntmps12
    go_wp2_with fail
    refine (szDepS_laws z0.length 1048576 a0 k0 _ (by omega) (by omega) hcap).mono ?_
    rintro e w' ⟨rfl, rfl⟩
    go_wp2
    go_ret
    exact ⟨rfl, below_alloc (Below.refl _ _) _⟩
  · have hz : szR 1048576 z0.length = 1048576 - (z0.length : Int) := by rw [szR, if_neg hbig]
    have hge : (0 : Int) ≤ szR 1048576 z0.length := by omega
    clear hz
    go_enter Try.func12, Try.ntmps12
    go_wp2_with fail
    refine (szDepS_laws z0.length 1048576 a0 k0 _ (by omega) (by omega) hcap).mono ?_
    rintro e w' ⟨rfl, rfl⟩
    have B1 := Blk.drew (Blk.new w #[.int .i64 x1.1, .int .i64 x1.2.1, .int .i64 x1.2.2] 58)
    have G0 := Below.drew (below_box w (.cells #[.int .i64 x1.1, .int .i64 x1.2.1, .int .i64 x1.2.2] 58))
    have hR1 : (putR z0 x1).length ≤ 1048577 := by have := putR_len z0 x1; omega
    go_wp2_with fail
    go_region_held3 (fun W => W.cell? ⟨w.heap.size, 0, none⟩ = some (.int .i64 x1.1) ∧ W.cell? ⟨w.heap.size, 1, none⟩ = some (.int .i64 x1.2.1) ∧ W.cell? ⟨w.heap.size, 2, none⟩ = some (.int .i64 x1.2.2)) (exact ⟨B1.three.1, B1.three.2.1, B1.three.2.2.1⟩) (first | (go_at_call 17; refine (toDepS_laws z0 a0 k0 _ (w0x.below G0) (by omega)).mono ?_; rintro e w1 ⟨v1, rfl, own1, hb⟩; have B1 := B1.below hb B1.lt; have G0 := below_after G0 hb; obtain ⟨p1, c1, rfl, rd1⟩ := Reads.of_owns own1) | (go_at_call 38; refine (toDep_laws _ _ _ _).mono ?_; rintro e w2 ⟨rfl, hb⟩; have B1 := B1.below hb B1.lt; have G0 := below_after G0 hb; have rd1 := rd1.below hb) | (go_at_call 34; refine (DepsPut_spec z0 x1 p1 c1 _ rd1 (by omega)).mono ?_; rintro e w3 ⟨v3, rfl, own3, hb⟩; have B1 := B1.below hb B1.lt; have G0 := below_after G0 hb))
    obtain ⟨p3, c3, rfl, rd3⟩ := Reads.of_owns own3
    have first3 := own3
    have hsz := B1.lt
    obtain ⟨q0, q1, q2, qf, ql⟩ := B1.three
    go_wp2_with fail
    have sz4 := G0.size
    refine (toDepS_laws z0 a0 k0 _ (w0x.below G0) (by omega)).mono ?_
    rintro e w4 ⟨v4, rfl, own4, hb4⟩
    obtain ⟨p4, c4, rfl, rd4⟩ := Reads.of_owns own4
    have own3 := own_below own3 hb4
    have B1 := B1.below hb4 B1.lt
    have G0 := below_after G0 hb4
    have first4 := own4
    have ls4 := hb4.size
    obtain ⟨q0, q1, q2, qf, ql⟩ := B1.three
    go_wp2_with fail
    refine (toDep_laws _ _ _ _).mono ?_
    rintro e w5 ⟨rfl, hb5⟩
    have own3 := own_below own3 hb5
    have own4 := own_below own4 hb5
    have B1 := B1.below hb5 B1.lt
    have G0 := below_after G0 hb5
    have ls5 := hb5.size
    go_wp2_with fail
    have sz6 := G0.size
    refine (DepsPut_impl z0 x1 p4 c4 _ (Reads.own own4) (by omega)).mono ?_
    rintro e w6 ⟨v6, rfl, own6, hb6⟩
    obtain ⟨p6, c6, rfl, rd6⟩ := Reads.of_owns own6
    have own3 := own_below own3 hb6
    have own4 := own_below own4 hb6
    have B1 := B1.below hb6 B1.lt
    have G0 := below_after G0 hb6
    have first6 := own6
    have ls6 := hb6.size
    go_wp2_with fail
    refine (eqDepS_same (putR z0 x1) p6 p3 c6 c3 _ (Reads.own own6) (Reads.own own3)).mono ?_
    rintro e w7 ⟨rfl, hb7⟩
    have own3 := own_below own3 hb7
    have own4 := own_below own4 hb7
    have own6 := own_below own6 hb7
    have B1 := B1.below hb7 B1.lt
    have G0 := below_after G0 hb7
    have ls7 := hb7.size
    go_wp2_with fail
    have sz8 := G0.size
    refine (toDepS_laws z0 a0 k0 _ (w0x.below G0) (by omega)).mono ?_
    rintro e w8 ⟨v8, rfl, own8, hb8⟩
    obtain ⟨p8, c8, rfl, rd8⟩ := Reads.of_owns own8
    have own3 := own_below own3 hb8
    have own4 := own_below own4 hb8
    have own6 := own_below own6 hb8
    have B1 := B1.below hb8 B1.lt
    have G0 := below_after G0 hb8
    have first8 := own8
    have ls8 := hb8.size
    go_wp2_with fail
    refine (eqDepS_same z0 p4 p8 c4 c8 _ (Reads.own own4) (Reads.own own8)).mono ?_
    rintro e w9 ⟨rfl, hb9⟩
    have own3 := own_below own3 hb9
    have own4 := own_below own4 hb9
    have own6 := own_below own6 hb9
    have own8 := own_below own8 hb9
    have B1 := B1.below hb9 B1.lt
    have G0 := below_after G0 hb9
    have ls9 := hb9.size
    go_wp2_with fail
    refine (markDepS_laws z0.length 1 p4 c4 _ _ _ own4 (by omega) (by omega) (by omega)).mono ?_
    rintro e w10 ⟨rfl, mk10, hg10⟩
    have own3 := own3.kept hg10 (own_apart first3 first4 (by omega))
    have own6 := own6.kept hg10 (own_apart' first4 first6 (by omega))
    have own8 := own8.kept hg10 (own_apart' first4 first8 (by omega))
    have B1 := B1.row hg10 (own_ne' own4 (by omega))
    have G0 := below_mark G0 own4 hg10 (by omega)
    have ls10 := hg10.size
    have own4 := mk10
    go_wp2_with fail
    refine (eqDepS_same (putR z0 x1) p6 p3 c6 c3 _ (Reads.own own6) (Reads.own own3)).mono ?_
    rintro e w11 ⟨rfl, hb11⟩
    have own3 := own_below own3 hb11
    have own4 := own_below own4 hb11
    have own6 := own_below own6 hb11
    have own8 := own_below own8 hb11
    have B1 := B1.below hb11 B1.lt
    have G0 := below_after G0 hb11
    have ls11 := hb11.size
    go_wp2_with fail
    refine (markDepS_laws (putR z0 x1).length 1 p6 c6 _ _ _ own6 (by omega) (by omega) (by omega)).mono ?_
    rintro e w12 ⟨rfl, mk12, hg12⟩
    have own3 := own3.kept hg12 (own_apart first3 first6 (by omega))
    have own4 := own4.kept hg12 (own_apart first4 first6 (by omega))
    have own8 := own8.kept hg12 (own_apart' first6 first8 (by omega))
    have B1 := B1.row hg12 (own_ne' own6 (by omega))
    have G0 := below_mark G0 own6 hg12 (by omega)
    have ls12 := hg12.size
    have own6 := mk12
    go_wp2_with fail
    refine (heldDepS_laws (putR z0 x1).length 1 p6 c6 _ (Reads.own own6) (by omega) (by omega) (by omega)).mono ?_
    rintro e w' ⟨rfl, rfl⟩
    obtain ⟨q0, q1, q2, qf, ql⟩ := B1.three
    go_wp2_with fail
    have hbd := (Below.refl w12.heap.size w12).drew
    have own3 := own_below own3 hbd
    have own4 := own_below own4 hbd
    have own6 := own_below own6 hbd
    have own8 := own_below own8 hbd
    have B1 := B1.below hbd B1.lt
    have G0 := below_after G0 hbd
    go_region_held3 (fun W => W.cell? ⟨w.heap.size, 0, none⟩ = some (.int .i64 x1.1) ∧ W.cell? ⟨w.heap.size, 1, none⟩ = some (.int .i64 x1.2.1) ∧ W.cell? ⟨w.heap.size, 2, none⟩ = some (.int .i64 x1.2.2)) (exact ⟨B1.three.1, B1.three.2.1, B1.three.2.2.1⟩) (first | (go_at_call 17; refine (toDepS_laws z0 a0 k0 _ (w0x.below G0) (by omega)).mono ?_; rintro e w13 ⟨v13, rfl, own13, hb⟩; have own3 := own_below own3 hb; have own4 := own_below own4 hb; have own6 := own_below own6 hb; have own8 := own_below own8 hb; have B1 := B1.below hb B1.lt; have G0 := below_after G0 hb; obtain ⟨p13, c13, rfl, rd13⟩ := Reads.of_owns own13) | (go_at_call 38; refine (toDep_laws _ _ _ _).mono ?_; rintro e w14 ⟨rfl, hb⟩; have own3 := own_below own3 hb; have own4 := own_below own4 hb; have own6 := own_below own6 hb; have own8 := own_below own8 hb; have B1 := B1.below hb B1.lt; have G0 := below_after G0 hb; have rd13 := rd13.below hb) | (go_at_call 32; refine (DepsPut_impl z0 x1 p13 c13 _ rd13 (by omega)).mono ?_; rintro e w15 ⟨v15, rfl, own15, hb⟩; have own3 := own_below own3 hb; have own4 := own_below own4 hb; have own6 := own_below own6 hb; have own8 := own_below own8 hb; have B1 := B1.below hb B1.lt; have G0 := below_after G0 hb))
    obtain ⟨p15, c15, rfl, rd15⟩ := Reads.of_owns own15
    go_wp2_with fail
    refine (eqDepS_same (putR z0 x1) p15 p3 c15 c3 _ (Reads.own own15) (Reads.own own3)).mono ?_
    rintro e w16 ⟨rfl, hb16⟩
    have own3 := own_below own3 hb16
    have own4 := own_below own4 hb16
    have own6 := own_below own6 hb16
    have own8 := own_below own8 hb16
    have own15 := own_below own15 hb16
    have B1 := B1.below hb16 B1.lt
    have G0 := below_after G0 hb16
    have ls16 := hb16.size
    go_wp2_with fail
    refine (heldDepS_laws (putR z0 x1).length 1 p6 c6 _ (Reads.own own6) (by omega) (by omega) (by omega)).mono ?_
    rintro e w' ⟨rfl, rfl⟩
    go_wp2_with fail
    go_ret
    exact ⟨rfl, G0⟩

set_option maxRecDepth 100000 in
theorem lifted (os : Os) (started : os.Started) (H : Type) (enc : TypeId × Value → H) :
    ReturnsInHanded {} Try.checked os 12 .any (Rows.fnExactDepsPutSpec.pre6 enc Try.prog Try.f12 Rows.fnExactDepsPutRow.domain false) (Rows.fnExactDepsPutSpec.post enc Try.prog Try.f12 false true false false) := by
  refine returnsInHanded_of_change (C := Try.checked) own started (by kernel_rfl) Try.func12
    (ChangeSpec.witness6 (enc := enc) (C := Try.checked) false ⟨#[], #[.slice none 0 0, .agg #[.int .i64 0, .int .i64 0, .int .i64 0]], []⟩ 8 (by kernel_rfl) (by kernel_rfl) (by kernel_rfl) (by kernel_rfl)) ?_
  intro W base args ds gs before hval0 hW hcnd _
  have hval : ∀ (j : Nat) t v, Try.f12.params[j]? = some t → args[j]? = some v → Value.okWide Try.prog W .any base t v := hval0
  have hW' := hW
  obtain ⟨p, q, hA0, hV, rfl, hfz, hnd⟩ := hW
  have hA : DataW.TrodAll enc Try.prog W 0 (fun _ => true) true Try.f12.params.toList args.toList ds p := hA0
  rw [Try.params12] at hA hval
  obtain ⟨v0, vs0, d0, ds0, p0, q0, hargs, rfl, rfl, h0, r0⟩ := trodAll_cons hA
  obtain ⟨v1, vs1, d1, ds1, p1, q1, rfl, rfl, rfl, h1, r1⟩ := trodAll_cons r0
  obtain ⟨rfl, rfl, rfl⟩ := trodAll_nil r1
  obtain rfl : args = #[v0, v1] := by cases args; simp_all
  obtain ⟨rfl, rfl⟩ := trodVars_none hV
  have lt0 : ∀ x ∈ p0, x.block < W.heap.size := by obtain ⟨m, hm⟩ := h0; exact DataW.trod_lt m _ _ _ hm
  obtain ⟨_, _, _, _, hD0⟩ := isDepL
  obtain ⟨a0, k0, z0, rfl, w0⟩ := deps_of Try.underlying22 hD0 (hval 0 22 v0 rfl rfl) h0
  have lt1 : ∀ x ∈ p1, x.block < W.heap.size := by obtain ⟨m, hm⟩ := h1; exact DataW.trod_lt m _ _ _ hm
  obtain ⟨_, _, _, _, hD1⟩ := isDepL
  obtain ⟨d1', rfl, w1⟩ := dep_of hD1 (hval 1 58 v1 rfl rfl) h1
  clear hA0 hval0
  refine (walk a0 k0 z0 d1' W w0 w1).mono fun e W' ⟨he, bel⟩ => ?_
  subst he
  exact ⟨_, rfl, _, _, _, [], _, [], hW', trodAll_mk1 (shut_bool Try.underlying4 _), (trodAll_cons_mk (Below.trod laidOut (by kernel_rfl) (of_decide_eq_true (by kernel_rfl)) h0 bel lt0) (trodAll_cons_mk (Below.trod laidOut (by kernel_rfl) (of_decide_eq_true (by kernel_rfl)) h1 bel lt1) trodAll_mk0)), rfl, bel.frame _, fun h => by cases h⟩

theorem over_row : Rows.fnExactDepsPutRow.holds Try.pinned (OpenSpec.ofChange Rows.fnExactDepsPutSpec) :=
  OpenClaim.holds_of_wide 12 Try.f12 rfl rfl rfl rfl rfl rfl rfl ⟨rfl, rfl, rfl, rfl, rfl⟩ rfl rfl rfl rfl rfl (by kernel_rfl) Try.func12 (by kernel_rfl)
    (of_decide_eq_true (by kernel_rfl)) (by unfold Func.isWrapper; first | (rw [if_pos (by decide +kernel)]; kernel_rfl) | (rw [if_neg (by decide +kernel)]; exact ⟨rfl, rfl⟩))
    (fun os started H enc _ => lifted os started H enc)

/-- The statement. -/
theorem proved : Rows.FnExactDepsPutSaid := over_row
end Go.Proofs.Ytfibddeafddjoaa.fnExactDepsPut
