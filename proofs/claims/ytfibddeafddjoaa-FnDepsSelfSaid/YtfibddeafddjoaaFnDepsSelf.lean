/- Dependencies joined with themselves, or with none, are the same. Of every input that the given statement lets in. -/
import Derived.Test.YtfibddeafddjoaaOpen
import Derived.Test.YtfibddeafddjoaaDrawD
import Derived.Test.YtfibddeafddjoaaLi
import Derived.Test.YtfibddeafddjoaaDepsL
namespace Go.Proofs.Ytfibddeafddjoaa.fnDepsSelf
open Go.ChangeShapes Go.WideShapes Go.ChangeAt Go.RowKit
set_option linter.unusedVariables false
theorem reads_nil {w : World} : Reads w none ([] : List Dp).length 0 (dpsC []) := ⟨Nat.le_refl _, by simp, fun h => absurd rfl h⟩
set_option maxHeartbeats 1000000 in
theorem walk (a0 : Option Addr) (l0 k0 : Nat) (w : World) (w0 : BytesIn w a0 l0 k0) :
    Calls Try.prog 10 #[.slice a0 l0 k0] w fun e w' => e = .returned (.bool true) ∧ Below w.heap.size w w' := by
  by_cases hbig : 1048576 < l0
  · have hbig' : (1048576 : Int) < (l0 : Int) := by omega
    go_enter Try.func10, Try.ntmps10
    go_wp2
    go_ret
    exact ⟨rfl, Below.refl _ _⟩
  · have hbig' : (l0 : Int) ≤ (1048576 : Int) := by omega
    go_enter Try.func10, Try.ntmps10
    go_wp2_with fail
    refine (DrawDepsOk_any _ _ _ _ w0).mono ?_
    rintro e w1 ⟨l, a, cap, rfl, hl, rd, hb1⟩
    have G0 := hb1
    go_wp2_with fail
    refine (depsOk_spec l a cap _ rd (by omega)).mono ?_
    rintro e w2 ⟨rfl, hb2⟩
    have G0 := below_after G0 hb2
    have ls2 := hb2.size
    have rd := rd.below hb2
    go_wp2_with fail
    have sz3 := G0.size
    refine (DepsJoin_impl l l a a cap cap _ rd rd (by omega) (by omega)).mono ?_
    rintro e w3 ⟨v3, rfl, own3, hb3⟩
    obtain ⟨p3, c3, rfl, rd3⟩ := Reads.of_owns own3
    have G0 := below_after G0 hb3
    have first3 := own3
    have ls3 := hb3.size
    have rd := rd.below hb3
    go_wp2_with fail
    have sz4 := G0.size
    refine (DepsJoin_spec l l a a cap cap _ rd rd (by omega) (by omega)).mono ?_
    rintro e w4 ⟨v4, rfl, own4, hb4⟩
    obtain ⟨p4, c4, rfl, rd4⟩ := Reads.of_owns own4
    have own3 := own_below own3 hb4
    have G0 := below_after G0 hb4
    have first4 := own4
    have ls4 := hb4.size
    have rd := rd.below hb4
    go_wp2_with fail
    refine (liDeps_same (joinR l l) p3 p4 c3 c4 _ (Reads.own own3) (Reads.own own4)).mono ?_
    rintro e w5 ⟨rfl, hb5⟩
    have own3 := own_below own3 hb5
    have own4 := own_below own4 hb5
    have G0 := below_after G0 hb5
    have ls5 := hb5.size
    have rd := rd.below hb5
    rcases hok : depsOkB l with _ | _
    · skip
      go_wp2_with fail
      have sz6 := G0.size
      refine (DepsJoin_spec l l a a cap cap _ rd rd (by omega) (by omega)).mono ?_
      rintro e w6 ⟨v6, rfl, own6, hb6⟩
      obtain ⟨p6, c6, rfl, rd6⟩ := Reads.of_owns own6
      have own3 := own_below own3 hb6
      have own4 := own_below own4 hb6
      have G0 := below_after G0 hb6
      have first6 := own6
      have ls6 := hb6.size
      have rd := rd.below hb6
      go_wp2_with fail
      refine (liDeps_same (joinR l l) p3 p6 c3 c6 _ (Reads.own own3) (Reads.own own6)).mono ?_
      rintro e w7 ⟨rfl, hb7⟩
      have own3 := own_below own3 hb7
      have own4 := own_below own4 hb7
      have own6 := own_below own6 hb7
      have G0 := below_after G0 hb7
      have ls7 := hb7.size
      have rd := rd.below hb7
      go_wp2_with fail
      refine (depsOk_impl l a cap _ rd (by omega)).mono ?_
      rintro e w8 ⟨rfl, hb8⟩
      have own3 := own_below own3 hb8
      have own4 := own_below own4 hb8
      have own6 := own_below own6 hb8
      have G0 := below_after G0 hb8
      have ls8 := hb8.size
      have HO := Lib.hid hok
      go_wp2
      go_ret
      exact ⟨by simp, G0⟩
    · skip
      have h1 := joinR_self hok
      have h2 := joinR_nil hok
      have h3 := nil_joinR hok
      rw [h1] at own3
      have H2 := Lib.hid h2
      have H3 := Lib.hid h3
      have H1 := Lib.hid h1
      clear h1 h2 h3
      go_wp2_with fail
      rw [H1.out]
      refine (liDeps_same l p3 a c3 cap _ (Reads.own own3) rd).mono ?_
      rintro e w6 ⟨rfl, hb6⟩
      have own3 := own_below own3 hb6
      have G0 := below_after G0 hb6
      have ls6 := hb6.size
      have rd := rd.below hb6
      go_wp2_with fail
      have sz7 := G0.size
      refine (DepsJoin_impl l [] a none cap 0 _ rd reads_nil (by omega) (by simp)).mono ?_
      rintro e w7 ⟨v7, rfl, own7, hb7⟩
      obtain ⟨p7, c7, rfl, rd7⟩ := Reads.of_owns own7
      have own3 := own_below own3 hb7
      have G0 := below_after G0 hb7
      have first7 := own7
      have ls7 := hb7.size
      have rd := rd.below hb7
      rw [H2.out] at own7
      go_wp2_with fail
      rw [H2.out]
      refine (liDeps_same l p7 a c7 cap _ (Reads.own own7) rd).mono ?_
      rintro e w8 ⟨rfl, hb8⟩
      have own3 := own_below own3 hb8
      have own7 := own_below own7 hb8
      have G0 := below_after G0 hb8
      have ls8 := hb8.size
      have rd := rd.below hb8
      go_wp2_with fail
      have sz9 := G0.size
      refine (DepsJoin_impl [] l none a 0 cap _ reads_nil rd (by simp) (by omega)).mono ?_
      rintro e w9 ⟨v9, rfl, own9, hb9⟩
      obtain ⟨p9, c9, rfl, rd9⟩ := Reads.of_owns own9
      have own3 := own_below own3 hb9
      have own7 := own_below own7 hb9
      have G0 := below_after G0 hb9
      have first9 := own9
      have ls9 := hb9.size
      have rd := rd.below hb9
      rw [H3.out] at own9
      go_wp2_with fail
      rw [H3.out]
      refine (liDeps_same l p9 a c9 cap _ (Reads.own own9) rd).mono ?_
      rintro e w10 ⟨rfl, hb10⟩
      have own3 := own_below own3 hb10
      have own7 := own_below own7 hb10
      have own9 := own_below own9 hb10
      have G0 := below_after G0 hb10
      have ls10 := hb10.size
      go_wp2
      go_ret
      exact ⟨rfl, G0⟩

set_option maxRecDepth 100000 in
theorem lifted (os : Os) (started : os.Started) (H : Type) (enc : TypeId × Value → H) :
    ReturnsInHanded {} Try.checked os 10 .any (Rows.fnDepsSelfSpec.pre6 enc Try.prog Try.f10 Rows.fnDepsSelfRow.domain false) (Rows.fnDepsSelfSpec.post enc Try.prog Try.f10 false true false false) := by
  refine returnsInHanded_of_change (C := Try.checked) own started (by kernel_rfl) Try.func10
    (ChangeSpec.witness6 (enc := enc) (C := Try.checked) false ⟨#[], #[.slice none 0 0], []⟩ 8 (by kernel_rfl) (by kernel_rfl) (by kernel_rfl) (by kernel_rfl)) ?_
  intro W base args ds gs before hval0 hW hcnd _
  have hval : ∀ (j : Nat) t v, Try.f10.params[j]? = some t → args[j]? = some v → Value.okWide Try.prog W .any base t v := hval0
  have hW' := hW
  obtain ⟨p, q, hA0, hV, rfl, hfz, hnd⟩ := hW
  have hA : DataW.TrodAll enc Try.prog W 0 (fun _ => true) true Try.f10.params.toList args.toList ds p := hA0
  rw [Try.params10] at hA hval
  obtain ⟨v0, vs0, d0, ds0, p0, q0, hargs, rfl, rfl, h0, r0⟩ := trodAll_cons hA
  obtain ⟨rfl, rfl, rfl⟩ := trodAll_nil r0
  obtain rfl : args = #[v0] := by cases args; simp_all
  obtain ⟨rfl, rfl⟩ := trodVars_none hV
  have lt0 : ∀ x ∈ p0, x.block < W.heap.size := by obtain ⟨m, hm⟩ := h0; exact DataW.trod_lt m _ _ _ hm
  obtain ⟨a0, l0, k0, rfl, w0⟩ := bytes_of Try.underlying34 Try.underlying5 (by kernel_rfl) (hval 0 34 v0 rfl rfl) h0
  clear hA0 hval0
  refine (walk a0 l0 k0 W w0).mono fun e W' ⟨he, bel⟩ => ?_
  subst he
  exact ⟨_, rfl, _, _, _, [], _, [], hW', trodAll_mk1 (shut_bool Try.underlying4 _), (trodAll_cons_mk (Below.trod laidOut (by kernel_rfl) (of_decide_eq_true (by kernel_rfl)) h0 bel lt0) trodAll_mk0), rfl, bel.frame _, fun h => by cases h⟩

theorem over_row : Rows.fnDepsSelfRow.holds Try.pinned (OpenSpec.ofChange Rows.fnDepsSelfSpec) :=
  OpenClaim.holds_of_wide 10 Try.f10 rfl rfl rfl rfl rfl rfl rfl ⟨rfl, rfl, rfl, rfl, rfl⟩ rfl rfl rfl rfl rfl (by kernel_rfl) Try.func10 (by kernel_rfl)
    (of_decide_eq_true (by kernel_rfl)) (by unfold Func.isWrapper; first | (rw [if_pos (by decide +kernel)]; kernel_rfl) | (rw [if_neg (by decide +kernel)]; exact ⟨rfl, rfl⟩))
    (fun os started H enc _ => lifted os started H enc)

/-- The statement. -/
theorem proved : Rows.FnDepsSelfSaid := over_row
end Go.Proofs.Ytfibddeafddjoaa.fnDepsSelf
