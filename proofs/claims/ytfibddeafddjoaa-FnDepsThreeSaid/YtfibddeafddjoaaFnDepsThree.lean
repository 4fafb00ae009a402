/- Three are joined as two, and then the third. Of every input that the given statement lets in. -/
import Derived.Test.YtfibddeafddjoaaOpen
import Derived.Test.YtfibddeafddjoaaDrawD
import Derived.Test.YtfibddeafddjoaaLi
import Derived.Test.YtfibddeafddjoaaDepsM
namespace Go.Proofs.Ytfibddeafddjoaa.fnDepsThree
open Go.ChangeShapes Go.WideShapes Go.ChangeAt Go.RowKit
set_option linter.unusedVariables false

set_option maxHeartbeats 1000000 in
theorem walk (a0 : Option Addr) (l0 k0 : Nat) (a1 : Option Addr) (l1 k1 : Nat) (w : World) (w0 : BytesIn w a0 l0 k0) (w1 : BytesIn w a1 l1 k1) :
    Calls Try.prog 13 #[.slice a0 l0 k0, .slice a1 l1 k1] w fun e w' => e = .returned (.bool true) ∧ Below w.heap.size w w' := by
  by_cases hbig : 1048576 < l0
  · have hbig' : (1048576 : Int) < (l0 : Int) := by omega
    go_enter Try.func13, Try.ntmps13
    go_wp2
    go_ret
    exact ⟨rfl, Below.refl _ _⟩
  · have hbig' : (l0 : Int) ≤ (1048576 : Int) := by omega
    by_cases hbih : 1048576 < l1
    · have hbih' : (1048576 : Int) < (l1 : Int) := by omega
      go_enter Try.func13, Try.ntmps13
      go_wp2
      go_ret
      exact ⟨rfl, Below.refl _ _⟩
    · have hbih' : (l1 : Int) ≤ (1048576 : Int) := by omega
      have wx := w1
      clear w1
      go_enter Try.func13, Try.ntmps13
      go_wp2_with fail
      refine (DrawDepsJoin_any _ _ _ _ w0).mono ?_
      rintro e w1 ⟨la, lb, pa, pb, ca, cb, rfl, hla, hlb, rda, rdb, hb1⟩
      have G0 := hb1
      go_wp2_with fail
      refine (DrawDepsOk_any _ _ _ _ (wx.below G0)).mono ?_
      rintro e w2 ⟨lc, pc, cc, rfl, hlc, rdc, hb2⟩
      have G0 := below_after G0 hb2
      have rda := rda.below hb2
      have rdb := rdb.below hb2
      go_wp2_with fail
      have sz3 := G0.size
      refine (DepsJoin_impl la lb pa pb ca cb _ rda rdb (by omega) (by omega)).mono ?_
      rintro e w3 ⟨v3, rfl, own3, hb3⟩
      obtain ⟨p3, c3, rfl, rd3⟩ := Reads.of_owns own3
      have G0 := below_after G0 hb3
      have rda := rda.below hb3
      have rdb := rdb.below hb3
      have rdc := rdc.below hb3
      have first3 := own3
      have ls3 := hb3.size
      go_wp2_with fail
      have sz4 := G0.size
      refine (DepsJoin_spec la lb pa pb ca cb _ rda rdb (by omega) (by omega)).mono ?_
      rintro e w4 ⟨v4, rfl, own4, hb4⟩
      obtain ⟨p4, c4, rfl, rd4⟩ := Reads.of_owns own4
      have own3 := own_below own3 hb4
      have G0 := below_after G0 hb4
      have rda := rda.below hb4
      have rdb := rdb.below hb4
      have rdc := rdc.below hb4
      have first4 := own4
      have ls4 := hb4.size
      go_wp2_with fail
      refine (liDeps_same (joinR la lb) p3 p4 c3 c4 _ (Reads.own own3) (Reads.own own4)).mono ?_
      rintro e w5 ⟨rfl, hb5⟩
      have own3 := own_below own3 hb5
      have own4 := own_below own4 hb5
      have G0 := below_after G0 hb5
      have rda := rda.below hb5
      have rdb := rdb.below hb5
      have rdc := rdc.below hb5
      have ls5 := hb5.size
      go_wp2_with fail
      refine (depsOk_spec la pa ca _ rda (by omega)).mono ?_
      rintro e w6 ⟨rfl, hb6⟩
      have own3 := own_below own3 hb6
      have own4 := own_below own4 hb6
      have G0 := below_after G0 hb6
      have rda := rda.below hb6
      have rdb := rdb.below hb6
      have rdc := rdc.below hb6
      have ls6 := hb6.size
      rcases hoa : depsOkB la with _ | _
      · skip
        go_wp2_with fail
        have sz20 := G0.size
        refine (DepsJoin_spec la lb pa pb ca cb _ rda rdb (by omega) (by omega)).mono ?_
        rintro e w20 ⟨v20, rfl, own20, hb20⟩
        obtain ⟨p20, c20, rfl, rd20⟩ := Reads.of_owns own20
        have own3 := own_below own3 hb20
        have own4 := own_below own4 hb20
        have G0 := below_after G0 hb20
        have rda := rda.below hb20
        have rdb := rdb.below hb20
        have rdc := rdc.below hb20
        have first20 := own20
        have ls20 := hb20.size
        go_wp2_with fail
        refine (liDeps_same (joinR la lb) p3 p20 c3 c20 _ (Reads.own own3) (Reads.own own20)).mono ?_
        rintro e w21 ⟨rfl, hb21⟩
        have own3 := own_below own3 hb21
        have own4 := own_below own4 hb21
        have own20 := own_below own20 hb21
        have G0 := below_after G0 hb21
        have rda := rda.below hb21
        have rdb := rdb.below hb21
        have rdc := rdc.below hb21
        have ls21 := hb21.size
        go_wp2
        go_ret
        exact ⟨rfl, G0⟩
      have HA := Lib.hid hoa
      go_wp2_with fail
      refine (depsOk_spec lb pb cb _ rdb (by omega)).mono ?_
      rintro e w7 ⟨rfl, hb7⟩
      have own3 := own_below own3 hb7
      have own4 := own_below own4 hb7
      have G0 := below_after G0 hb7
      have rda := rda.below hb7
      have rdb := rdb.below hb7
      have rdc := rdc.below hb7
      have ls7 := hb7.size
      rcases hob : depsOkB lb with _ | _
      · skip
        go_wp2_with fail
        have sz20 := G0.size
        refine (DepsJoin_spec la lb pa pb ca cb _ rda rdb (by omega) (by omega)).mono ?_
        rintro e w20 ⟨v20, rfl, own20, hb20⟩
        obtain ⟨p20, c20, rfl, rd20⟩ := Reads.of_owns own20
        have own3 := own_below own3 hb20
        have own4 := own_below own4 hb20
        have G0 := below_after G0 hb20
        have rda := rda.below hb20
        have rdb := rdb.below hb20
        have rdc := rdc.below hb20
        have first20 := own20
        have ls20 := hb20.size
        go_wp2_with fail
        refine (liDeps_same (joinR la lb) p3 p20 c3 c20 _ (Reads.own own3) (Reads.own own20)).mono ?_
        rintro e w21 ⟨rfl, hb21⟩
        have own3 := own_below own3 hb21
        have own4 := own_below own4 hb21
        have own20 := own_below own20 hb21
        have G0 := below_after G0 hb21
        have rda := rda.below hb21
        have rdb := rdb.below hb21
        have rdc := rdc.below hb21
        have ls21 := hb21.size
        go_wp2
        go_ret
        exact ⟨rfl, G0⟩
      have HB := Lib.hid hob
      go_wp2_with fail
      refine (depsOk_spec lc pc cc _ rdc (by omega)).mono ?_
      rintro e w8 ⟨rfl, hb8⟩
      have own3 := own_below own3 hb8
      have own4 := own_below own4 hb8
      have G0 := below_after G0 hb8
      have rda := rda.below hb8
      have rdb := rdb.below hb8
      have rdc := rdc.below hb8
      have ls8 := hb8.size
      rcases hoc : depsOkB lc with _ | _
      · skip
        go_wp2_with fail
        have sz20 := G0.size
        refine (DepsJoin_spec la lb pa pb ca cb _ rda rdb (by omega) (by omega)).mono ?_
        rintro e w20 ⟨v20, rfl, own20, hb20⟩
        obtain ⟨p20, c20, rfl, rd20⟩ := Reads.of_owns own20
        have own3 := own_below own3 hb20
        have own4 := own_below own4 hb20
        have G0 := below_after G0 hb20
        have rda := rda.below hb20
        have rdb := rdb.below hb20
        have rdc := rdc.below hb20
        have first20 := own20
        have ls20 := hb20.size
        go_wp2_with fail
        refine (liDeps_same (joinR la lb) p3 p20 c3 c20 _ (Reads.own own3) (Reads.own own20)).mono ?_
        rintro e w21 ⟨rfl, hb21⟩
        have own3 := own_below own3 hb21
        have own4 := own_below own4 hb21
        have own20 := own_below own20 hb21
        have G0 := below_after G0 hb21
        have rda := rda.below hb21
        have rdb := rdb.below hb21
        have rdc := rdc.below hb21
        have ls21 := hb21.size
        go_wp2
        go_ret
        exact ⟨rfl, G0⟩
      have HC := Lib.hid hoc
      have hj := depsOk_len (joinR_okB hoa hob)
      have hk := depsOk_len (joinR_okB hob hoc)
      have HS := Lib.hid (joinR_assoc hoa hob hoc)
      go_wp2_with fail
      have sz9 := G0.size
      refine (DepsJoin_impl (joinR la lb) lc p3 pc c3 cc _ (Reads.own own3) rdc (by omega) (by omega)).mono ?_
      rintro e w9 ⟨v9, rfl, own9, hb9⟩
      obtain ⟨p9, c9, rfl, rd9⟩ := Reads.of_owns own9
      have own3 := own_below own3 hb9
      have own4 := own_below own4 hb9
      have G0 := below_after G0 hb9
      have rda := rda.below hb9
      have rdb := rdb.below hb9
      have rdc := rdc.below hb9
      have first9 := own9
      have ls9 := hb9.size
      go_wp2_with fail
      have sz10 := G0.size
      refine (DepsJoin_impl lb lc pb pc cb cc _ rdb rdc (by omega) (by omega)).mono ?_
      rintro e w10 ⟨v10, rfl, own10, hb10⟩
      obtain ⟨p10, c10, rfl, rd10⟩ := Reads.of_owns own10
      have own3 := own_below own3 hb10
      have own4 := own_below own4 hb10
      have own9 := own_below own9 hb10
      have G0 := below_after G0 hb10
      have rda := rda.below hb10
      have rdb := rdb.below hb10
      have rdc := rdc.below hb10
      have first10 := own10
      have ls10 := hb10.size
      go_wp2_with fail
      have sz11 := G0.size
      refine (DepsJoin_impl la (joinR lb lc) pa p10 ca c10 _ rda (Reads.own own10) (by omega) (by omega)).mono ?_
      rintro e w11 ⟨v11, rfl, own11, hb11⟩
      obtain ⟨p11, c11, rfl, rd11⟩ := Reads.of_owns own11
      have own3 := own_below own3 hb11
      have own4 := own_below own4 hb11
      have own9 := own_below own9 hb11
      have own10 := own_below own10 hb11
      have G0 := below_after G0 hb11
      have rda := rda.below hb11
      have rdb := rdb.below hb11
      have rdc := rdc.below hb11
      have first11 := own11
      have ls11 := hb11.size
      rw [HS.out] at own9
      go_wp2_with fail
      rw [HS.out]
      refine (liDeps_same (joinR la (joinR lb lc)) p9 p11 c9 c11 _ (Reads.own own9) (Reads.own own11)).mono ?_
      rintro e w12 ⟨rfl, hb12⟩
      have own3 := own_below own3 hb12
      have own4 := own_below own4 hb12
      have own9 := own_below own9 hb12
      have own10 := own_below own10 hb12
      have own11 := own_below own11 hb12
      have G0 := below_after G0 hb12
      have rda := rda.below hb12
      have rdb := rdb.below hb12
      have rdc := rdc.below hb12
      have ls12 := hb12.size
      go_wp2
      go_ret
      exact ⟨rfl, G0⟩


set_option maxRecDepth 100000 in
theorem lifted (os : Os) (started : os.Started) (H : Type) (enc : TypeId × Value → H) :
    ReturnsInHanded {} Try.checked os 13 .any (Rows.fnDepsThreeSpec.pre6 enc Try.prog Try.f13 Rows.fnDepsThreeRow.domain false) (Rows.fnDepsThreeSpec.post enc Try.prog Try.f13 false true false false) := by
  refine returnsInHanded_of_change (C := Try.checked) own started (by kernel_rfl) Try.func13
    (ChangeSpec.witness6 (enc := enc) (C := Try.checked) false ⟨#[], #[.slice none 0 0, .slice none 0 0], []⟩ 8 (by kernel_rfl) (by kernel_rfl) (by kernel_rfl) (by kernel_rfl)) ?_
  intro W base args ds gs before hval0 hW hcnd _
  have hval : ∀ (j : Nat) t v, Try.f13.params[j]? = some t → args[j]? = some v → Value.okWide Try.prog W .any base t v := hval0
  have hW' := hW
  obtain ⟨p, q, hA0, hV, rfl, hfz, hnd⟩ := hW
  have hA : DataW.TrodAll enc Try.prog W 0 (fun _ => true) true Try.f13.params.toList args.toList ds p := hA0
  rw [Try.params13] at hA hval
  obtain ⟨v0, vs0, d0, ds0, p0, q0, hargs, rfl, rfl, h0, r0⟩ := trodAll_cons hA
  obtain ⟨v1, vs1, d1, ds1, p1, q1, rfl, rfl, rfl, h1, r1⟩ := trodAll_cons r0
  obtain ⟨rfl, rfl, rfl⟩ := trodAll_nil r1
  obtain rfl : args = #[v0, v1] := by cases args; simp_all
  obtain ⟨rfl, rfl⟩ := trodVars_none hV
  have lt0 : ∀ x ∈ p0, x.block < W.heap.size := by obtain ⟨m, hm⟩ := h0; exact DataW.trod_lt m _ _ _ hm
  obtain ⟨a0, l0, k0, rfl, w0⟩ := bytes_of Try.underlying34 Try.underlying5 (by kernel_rfl) (hval 0 34 v0 rfl rfl) h0
  have lt1 : ∀ x ∈ p1, x.block < W.heap.size := by obtain ⟨m, hm⟩ := h1; exact DataW.trod_lt m _ _ _ hm
  obtain ⟨a1, l1, k1, rfl, w1⟩ := bytes_of Try.underlying34 Try.underlying5 (by kernel_rfl) (hval 1 34 v1 rfl rfl) h1
  clear hA0 hval0
  refine (walk a0 l0 k0 a1 l1 k1 W w0 w1).mono fun e W' ⟨he, bel⟩ => ?_
  subst he
  exact ⟨_, rfl, _, _, _, [], _, [], hW', trodAll_mk1 (shut_bool Try.underlying4 _), (trodAll_cons_mk (Below.trod laidOut (by kernel_rfl) (of_decide_eq_true (by kernel_rfl)) h0 bel lt0) (trodAll_cons_mk (Below.trod laidOut (by kernel_rfl) (of_decide_eq_true (by kernel_rfl)) h1 bel lt1) trodAll_mk0)), rfl, bel.frame _, fun h => by cases h⟩

theorem over_row : Rows.fnDepsThreeRow.holds Try.pinned (OpenSpec.ofChange Rows.fnDepsThreeSpec) :=
  OpenClaim.holds_of_wide 13 Try.f13 rfl rfl rfl rfl rfl rfl rfl ⟨rfl, rfl, rfl, rfl, rfl⟩ rfl rfl rfl rfl rfl (by kernel_rfl) Try.func13 (by kernel_rfl)
    (of_decide_eq_true (by kernel_rfl)) (by unfold Func.isWrapper; first | (rw [if_pos (by decide +kernel)]; kernel_rfl) | (rw [if_neg (by decide +kernel)]; exact ⟨rfl, rfl⟩))
    (fun os started H enc _ => lifted os started H enc)

/-- The statement. -/
theorem proved : Rows.FnDepsThreeSaid := over_row
end Go.Proofs.Ytfibddeafddjoaa.fnDepsThree
