/- Joined dependencies are behind neither. Of every input that the given statement lets in. -/
import Derived.Test.YtiigdbmfpibbdaaOpen
import Derived.Test.YtiigdbmfpibbdaaDrawD
import Derived.Test.YtiigdbmfpibbdaaLi
import Derived.Test.YtiigdbmfpibbdaaDepsO
namespace Go.Proofs.Ytiigdbmfpibbdaa.fnDepsMore
open Go.ChangeShapes Go.WideShapes Go.ChangeAt Go.RowKit
set_option linter.unusedVariables false

set_option maxHeartbeats 1000000 in
theorem walk (a0 : Option Addr) (l0 k0 : Nat) (w : World) (w0 : BytesIn w a0 l0 k0) :
    Calls Try.prog 3 #[.slice a0 l0 k0] w fun e w' => e = .returned (.bool true) ∧ Below w.heap.size w w' := by
  by_cases hbig : 1048576 < l0
  · have hbig' : (1048576 : Int) < (l0 : Int) := by omega
    go_enter Try.func3, Try.ntmps3
    go_wp2
    go_ret
    exact ⟨rfl, Below.refl _ _⟩
  · have hbig' : (l0 : Int) ≤ (1048576 : Int) := by omega
    go_enter Try.func3, Try.ntmps3
    go_wp2_with fail
    refine (DrawDepsJoin_any _ _ _ _ w0).mono ?_
    rintro e w1 ⟨la, lb, pa, pb, ca, cb, rfl, hla, hlb, rda, rdb, hb1⟩
    have G0 := hb1
    go_wp2_with fail
    have sz3 := G0.size
    refine (DepsJoin_impl la lb pa pb ca cb _ rda rdb (by omega) (by omega)).mono ?_
    rintro e w3 ⟨v3, rfl, own3, hb3⟩
    obtain ⟨p3, c3, rfl, rd3⟩ := Reads.of_owns own3
    have G0 := below_after G0 hb3
    have rda := rda.below hb3
    have rdb := rdb.below hb3
    have first3 := own3
    have ls3 := hb3.size
    go_wp2_with fail
    have sz4 := G0.size
    refine (DepsJoin_spec la lb pa pb ca cb _ rda rdb (by omega) (by omega)).mono ?_
    rintro e w4 ⟨v4, rfl, own4, hb4⟩
    obtain ⟨p4, c4, rfl, rd4⟩ := Reads.of_owns own4
    have own3 := own_below own3 hb4
    have G0 := below_after G0 hb4
    have rda := rda.below hb4
    have rdb := rdb.below hb4
    have first4 := own4
    have ls4 := hb4.size
    go_wp2_with fail
    refine (liDeps_same (joinR la lb) p3 p4 c3 c4 _ (Reads.own own3) (Reads.own own4)).mono ?_
    rintro e w5 ⟨rfl, hb5⟩
    have own3 := own_below own3 hb5
    have own4 := own_below own4 hb5
    have G0 := below_after G0 hb5
    have rda := rda.below hb5
    have rdb := rdb.below hb5
    have ls5 := hb5.size
    go_wp2_with fail
    refine (depsOk_spec la pa ca _ rda (by omega)).mono ?_
    rintro e w6 ⟨rfl, hb6⟩
    have own3 := own_below own3 hb6
    have own4 := own_below own4 hb6
    have G0 := below_after G0 hb6
    have rda := rda.below hb6
    have rdb := rdb.below hb6
    have ls6 := hb6.size
    rcases hoa : depsOkB la with _ | _
    · skip
      go_wp2_with fail
      have sz20 := G0.size
      refine (DepsJoin_spec la lb pa pb ca cb _ rda rdb (by omega) (by omega)).mono ?_
      rintro e w20 ⟨v20, rfl, own20, hb20⟩
      obtain ⟨p20, c20, rfl, rd20⟩ := Reads.of_owns own20
      have own3 := own_below own3 hb20
      have own4 := own_below own4 hb20
      have G0 := below_after G0 hb20
      have rda := rda.below hb20
      have rdb := rdb.below hb20
      have first20 := own20
      have ls20 := hb20.size
      go_wp2_with fail
      refine (liDeps_same (joinR la lb) p3 p20 c3 c20 _ (Reads.own own3) (Reads.own own20)).mono ?_
      rintro e w21 ⟨rfl, hb21⟩
      have own3 := own_below own3 hb21
      have own4 := own_below own4 hb21
      have own20 := own_below own20 hb21
      have G0 := below_after G0 hb21
      have rda := rda.below hb21
      have rdb := rdb.below hb21
      have ls21 := hb21.size
      go_wp2
      go_ret
      exact ⟨rfl, G0⟩
    have HA := Lib.hid hoa
    go_wp2_with fail
    refine (depsOk_spec lb pb cb _ rdb (by omega)).mono ?_
    rintro e w7 ⟨rfl, hb7⟩
    have own3 := own_below own3 hb7
    have own4 := own_below own4 hb7
    have G0 := below_after G0 hb7
    have rda := rda.below hb7
    have rdb := rdb.below hb7
    have ls7 := hb7.size
    rcases hob : depsOkB lb with _ | _
    · skip
      go_wp2_with fail
      have sz20 := G0.size
      refine (DepsJoin_spec la lb pa pb ca cb _ rda rdb (by omega) (by omega)).mono ?_
      rintro e w20 ⟨v20, rfl, own20, hb20⟩
      obtain ⟨p20, c20, rfl, rd20⟩ := Reads.of_owns own20
      have own3 := own_below own3 hb20
      have own4 := own_below own4 hb20
      have G0 := below_after G0 hb20
      have rda := rda.below hb20
      have rdb := rdb.below hb20
      have first20 := own20
      have ls20 := hb20.size
      go_wp2_with fail
      refine (liDeps_same (joinR la lb) p3 p20 c3 c20 _ (Reads.own own3) (Reads.own own20)).mono ?_
      rintro e w21 ⟨rfl, hb21⟩
      have own3 := own_below own3 hb21
      have own4 := own_below own4 hb21
      have own20 := own_below own20 hb21
      have G0 := below_after G0 hb21
      have rda := rda.below hb21
      have rdb := rdb.below hb21
      have ls21 := hb21.size
      go_wp2
      go_ret
      exact ⟨rfl, G0⟩
    have HB' := Lib.hid hob
    have hj := joinR_len la lb
    have H1 := Lib.hid (joinR_again1 hoa hob)
    have H2 := Lib.hid (joinR_again2 hoa hob)
    go_wp2
    go_loopw [6] (fun i wr => ∃ k : Nat, k ≤ la.length ∧ i = .int .i64 k ∧ Below w7.heap.size w7 wr) (fun i _ => la.length - (intOf i).toNat)
    case atStart => exact ⟨0, Nat.zero_le _, rfl, Below.refl _ _⟩
    case round =>
      obtain ⟨k, hk, rfl, HB⟩ := hrel
      have own3 := own_below own3 HB
      have own4 := own_below own4 HB
      have G0 := below_after G0 HB
      have rda := rda.below HB
      have rdb := rdb.below HB
      by_cases hlt : k < la.length
      · skip
        have hless := join_notless HA.out HB'.out k hlt
        obtain ⟨_, _, h3⟩ := rda
        obtain ⟨b, off, rfl, hbl, hcell⟩ := h3 (dpsC_ne (by omega))
        obtain ⟨g0, g1, g2⟩ := dpsC_get la k hlt
        have c0 := hcell _ _ g0
        have c1 := hcell _ _ g1
        have c2 := hcell _ _ g2
        rw [← Nat.add_assoc] at c1 c2
        have hi0 : (0 : Int) ≤ (k : Int) := by omega
        have hi1 : (k : Int) < (la.length : Int) := by omega
        clear hcell h3 g0 g1 g2
        have rdX := Reads.own own3
        go_wp2
        refine region_over (by kernel_rfl) (by kernel_rfl) ?_
        repeat (go_big_quiet_step (first | (go_at_call 21; exact quiet_over (DepsAt_impl (joinR la lb) la[k].1 p3 c3 _ (rdX.below (over_below _ _)) (by omega))) | (go_at_call 20; exact quiet_over (bool_is hless (stampLess_impl _ _ _ _ _)))))
        refine wpQuiet_nil ?_
        intro w9 hb9
        go_wp2
        go_roundw
        case rel => exact ⟨k + 1, by omega, by go_num, below_after HB hb9⟩
        case measure => simp [intOf]; omega
      · skip
        obtain rfl : k = la.length := by omega
        go_wp2_with fail
        have sz12 := G0.size
        refine (DepsJoin_impl (joinR la lb) la p3 pa c3 ca _ (Reads.own own3) rda (by omega) (by omega)).mono ?_
        rintro e w12 ⟨v12, rfl, own12, hb12⟩
        obtain ⟨p12, c12, rfl, rd12⟩ := Reads.of_owns own12
        have own3 := own_below own3 hb12
        have own4 := own_below own4 hb12
        have G0 := below_after G0 hb12
        have rda := rda.below hb12
        have rdb := rdb.below hb12
        have first12 := own12
        have ls12 := hb12.size
        rw [H1.out] at own12
        go_wp2_with fail
        rw [H1.out]
        refine (liDeps_same (joinR la lb) p12 p3 c12 c3 _ (Reads.own own12) (Reads.own own3)).mono ?_
        rintro e w13 ⟨rfl, hb13⟩
        have own3 := own_below own3 hb13
        have own4 := own_below own4 hb13
        have own12 := own_below own12 hb13
        have G0 := below_after G0 hb13
        have rda := rda.below hb13
        have rdb := rdb.below hb13
        have ls13 := hb13.size
        go_wp2_with fail
        have sz14 := G0.size
        refine (DepsJoin_impl (joinR la lb) lb p3 pb c3 cb _ (Reads.own own3) rdb (by omega) (by omega)).mono ?_
        rintro e w14 ⟨v14, rfl, own14, hb14⟩
        obtain ⟨p14, c14, rfl, rd14⟩ := Reads.of_owns own14
        have own3 := own_below own3 hb14
        have own4 := own_below own4 hb14
        have own12 := own_below own12 hb14
        have G0 := below_after G0 hb14
        have rda := rda.below hb14
        have rdb := rdb.below hb14
        have first14 := own14
        have ls14 := hb14.size
        rw [H2.out] at own14
        go_wp2_with fail
        rw [H2.out]
        refine (liDeps_same (joinR la lb) p14 p3 c14 c3 _ (Reads.own own14) (Reads.own own3)).mono ?_
        rintro e w15 ⟨rfl, hb15⟩
        have own3 := own_below own3 hb15
        have own4 := own_below own4 hb15
        have own12 := own_below own12 hb15
        have own14 := own_below own14 hb15
        have G0 := below_after G0 hb15
        have rda := rda.below hb15
        have rdb := rdb.below hb15
        have ls15 := hb15.size
        go_wp2
        go_ret
        exact ⟨rfl, G0⟩

set_option maxRecDepth 100000 in
theorem lifted (os : Os) (started : os.Started) (H : Type) (enc : TypeId × Value → H) :
    ReturnsInHanded {} Try.checked os 3 .any (Rows.fnDepsMoreSpec.pre6 enc Try.prog Try.f3 Rows.fnDepsMoreRow.domain false) (Rows.fnDepsMoreSpec.post enc Try.prog Try.f3 false true false false) := by
  refine returnsInHanded_of_change (C := Try.checked) own started (by kernel_rfl) Try.func3
    (ChangeSpec.witness6 (enc := enc) (C := Try.checked) false ⟨#[], #[.slice none 0 0], []⟩ 8 (by kernel_rfl) (by kernel_rfl) (by kernel_rfl) (by kernel_rfl)) ?_
  intro W base args ds gs before hval0 hW hcnd _
  have hval : ∀ (j : Nat) t v, Try.f3.params[j]? = some t → args[j]? = some v → Value.okWide Try.prog W .any base t v := hval0
  have hW' := hW
  obtain ⟨p, q, hA0, hV, rfl, hfz, hnd⟩ := hW
  have hA : DataW.TrodAll enc Try.prog W 0 (fun _ => true) true Try.f3.params.toList args.toList ds p := hA0
  rw [Try.params3] at hA hval
  obtain ⟨v0, vs0, d0, ds0, p0, q0, hargs, rfl, rfl, h0, r0⟩ := trodAll_cons hA
  obtain ⟨rfl, rfl, rfl⟩ := trodAll_nil r0
  obtain rfl : args = #[v0] := by cases args; simp_all
  obtain ⟨rfl, rfl⟩ := trodVars_none hV
  have lt0 : ∀ x ∈ p0, x.block < W.heap.size := by obtain ⟨m, hm⟩ := h0; exact DataW.trod_lt m _ _ _ hm
  obtain ⟨a0, l0, k0, rfl, w0⟩ := bytes_of Try.underlying22 Try.underlying5 (by kernel_rfl) (hval 0 22 v0 rfl rfl) h0
  clear hA0 hval0
  refine (walk a0 l0 k0 W w0).mono fun e W' ⟨he, bel⟩ => ?_
  subst he
  exact ⟨_, rfl, _, _, _, [], _, [], hW', trodAll_mk1 (shut_bool Try.underlying4 _), (trodAll_cons_mk (Below.trod laidOut (by kernel_rfl) (of_decide_eq_true (by kernel_rfl)) h0 bel lt0) trodAll_mk0), rfl, bel.frame _, fun h => by cases h⟩

theorem over_row : Rows.fnDepsMoreRow.holds Try.pinned (OpenSpec.ofChange Rows.fnDepsMoreSpec) :=
  OpenClaim.holds_of_wide 3 Try.f3 rfl rfl rfl rfl rfl rfl rfl ⟨rfl, rfl, rfl, rfl, rfl⟩ rfl rfl rfl rfl rfl (by kernel_rfl) Try.func3 (by kernel_rfl)
    (of_decide_eq_true (by kernel_rfl)) (by unfold Func.isWrapper; first | (rw [if_pos (by decide +kernel)]; kernel_rfl) | (rw [if_neg (by decide +kernel)]; exact ⟨rfl, rfl⟩))
    (fun os started H enc _ => lifted os started H enc)

/-- The statement. -/
theorem proved : Rows.FnDepsMoreSaid := over_row
end Go.Proofs.Ytiigdbmfpibbdaa.fnDepsMore
