/- Of two versions of a key the newer one counts. Of every input that the given statement lets in. -/
import Derived.Test.YtfibddeafddjoaaOpen
import Derived.Test.YtfibddeafddjoaaDrawD2
import Derived.Test.YtfibddeafddjoaaLi
import Derived.Test.YtfibddeafddjoaaDepsN
namespace Go.Proofs.Ytfibddeafddjoaa.fnDepsPut
open Go.ChangeShapes Go.WideShapes Go.ChangeAt Go.RowKit
set_option linter.unusedVariables false
theorem st_is {P : Program} {f : FuncId} {args : Array Value} {w : World} {s s' : Int × Int} (h : s = s') (hc : Calls P f args w (GivesSt s w)) : Calls P f args w fun e w' => e = .returned (.agg #[.int .i64 s'.1, .int .i64 s'.2]) ∧ Below w.heap.size w w' := h ▸ hc
set_option maxHeartbeats 2000000 in
theorem walk (a0 : Option Addr) (l0 k0 : Nat) (w : World) (w0 : BytesIn w a0 l0 k0) :
    Calls Try.prog 11 #[.slice a0 l0 k0] w fun e w' => e = .returned (.bool true) ∧ Below w.heap.size w w' := by
  by_cases hbig : 1048576 < l0
  · have hbig' : (1048576 : Int) < (l0 : Int) := by omega
    go_enter Try.func11, Try.ntmps11
    go_wp2
    go_ret
    exact ⟨rfl, Below.refl _ _⟩
  · have hbig' : (l0 : Int) ≤ (1048576 : Int) := by omega
    go_enter Try.func11, Try.ntmps11
    go_wp2_with fail
    refine (DrawDepsPut_any _ _ _ _ w0).mono ?_
    rintro e w1 ⟨la, pa, ca, d, rfl, hla, rdla, hb1⟩
    have G0 := hb1
    have BD := Blk.new w1 #[.int .i64 d.1, .int .i64 d.2.1, .int .i64 d.2.2] 38
    have hbBD := below_box w1 (.cells #[.int .i64 d.1, .int .i64 d.2.1, .int .i64 d.2.2] 38)
    have G0 := below_after G0 hbBD
    have rdla := rdla.below hbBD
    obtain ⟨BD0, BD1, BD2, BDf, BDl⟩ := BD.three
    go_wp2_with fail
    have sz3 := G0.size
    refine (DepsPut_spec la d pa ca _ rdla (by omega)).mono ?_
    rintro e w3 ⟨v3, rfl, own3, hb3⟩
    obtain ⟨p3, c3, rfl, rd3⟩ := Reads.of_owns own3
    have BD := BD.below hb3 BD.lt
    have G0 := below_after G0 hb3
    have rdla := rdla.below hb3
    have first3 := own3
    have ls3 := hb3.size
    obtain ⟨BD0, BD1, BD2, BDf, BDl⟩ := BD.three
    go_wp2_with fail
    have sz4 := G0.size
    refine (DepsPut_impl la d pa ca _ rdla (by omega)).mono ?_
    rintro e w4 ⟨v4, rfl, own4, hb4⟩
    obtain ⟨p4, c4, rfl, rd4⟩ := Reads.of_owns own4
    have own3 := own_below own3 hb4
    have BD := BD.below hb4 BD.lt
    have G0 := below_after G0 hb4
    have rdla := rdla.below hb4
    have first4 := own4
    have ls4 := hb4.size
    go_wp2_with fail
    refine (liDeps_same (putR la d) p4 p3 c4 c3 _ (Reads.own own4) (Reads.own own3)).mono ?_
    rintro e w5 ⟨rfl, hb5⟩
    have own3 := own_below own3 hb5
    have own4 := own_below own4 hb5
    have BD := BD.below hb5 BD.lt
    have G0 := below_after G0 hb5
    have rdla := rdla.below hb5
    have ls5 := hb5.size
    go_wp2_with fail
    refine (depsOk_impl la pa ca _ rdla (by omega)).mono ?_
    rintro e w6 ⟨rfl, hb6⟩
    have own3 := own_below own3 hb6
    have own4 := own_below own4 hb6
    have BD := BD.below hb6 BD.lt
    have G0 := below_after G0 hb6
    have rdla := rdla.below hb6
    have ls6 := hb6.size
    go_wp2_with fail
    refine (depsOk_spec la pa ca _ rdla (by omega)).mono ?_
    rintro e w7 ⟨rfl, hb7⟩
    have own3 := own_below own3 hb7
    have own4 := own_below own4 hb7
    have BD := BD.below hb7 BD.lt
    have G0 := below_after G0 hb7
    have rdla := rdla.below hb7
    have ls7 := hb7.size
    rcases hoa : depsOkB la with _ | _
    · have HR := Lib.hid (putR_bad1 (d := d) hoa)
      rw [HR.out] at own3 own4 ⊢
      go_wp2_with fail
      refine (liDeps_same [] p4 p3 c4 c3 _ (Reads.own own4) (Reads.own own3)).mono ?_
      rintro e w8 ⟨rfl, hb8⟩
      have own3 := own_below own3 hb8
      have own4 := own_below own4 hb8
      have BD := BD.below hb8 BD.lt
      have G0 := below_after G0 hb8
      have rdla := rdla.below hb8
      have ls8 := hb8.size
      go_wp2_with fail
      refine (depsOk_impl la pa ca _ rdla (by omega)).mono ?_
      rintro e w9 ⟨rfl, hb9⟩
      have own3 := own_below own3 hb9
      have own4 := own_below own4 hb9
      have BD := BD.below hb9 BD.lt
      have G0 := below_after G0 hb9
      have rdla := rdla.below hb9
      have ls9 := hb9.size
      go_wp2_with fail
      refine (depsOk_spec la pa ca _ rdla (by omega)).mono ?_
      rintro e w10 ⟨rfl, hb10⟩
      have own3 := own_below own3 hb10
      have own4 := own_below own4 hb10
      have BD := BD.below hb10 BD.lt
      have G0 := below_after G0 hb10
      have rdla := rdla.below hb10
      have ls10 := hb10.size
      go_wp2
      go_ret
      exact ⟨rfl, G0⟩
    have HA := Lib.hid hoa
    rcases hod : dpOk d with _ | _
    · have HR := Lib.hid (putR_bad2 (l := la) hod)
      rw [HR.out] at own3 own4 ⊢
      go_wp2_with fail
      refine (liDeps_same [] p4 p3 c4 c3 _ (Reads.own own4) (Reads.own own3)).mono ?_
      rintro e w8 ⟨rfl, hb8⟩
      have own3 := own_below own3 hb8
      have own4 := own_below own4 hb8
      have BD := BD.below hb8 BD.lt
      have G0 := below_after G0 hb8
      have rdla := rdla.below hb8
      have ls8 := hb8.size
      go_wp2_with fail
      refine (depsOk_impl la pa ca _ rdla (by omega)).mono ?_
      rintro e w9 ⟨rfl, hb9⟩
      have own3 := own_below own3 hb9
      have own4 := own_below own4 hb9
      have BD := BD.below hb9 BD.lt
      have G0 := below_after G0 hb9
      have rdla := rdla.below hb9
      have ls9 := hb9.size
      go_wp2_with fail
      refine (depsOk_spec la pa ca _ rdla (by omega)).mono ?_
      rintro e w10 ⟨rfl, hb10⟩
      have own3 := own_below own3 hb10
      have own4 := own_below own4 hb10
      have BD := BD.below hb10 BD.lt
      have G0 := below_after G0 hb10
      have rdla := rdla.below hb10
      have ls10 := hb10.size
      go_wp2
      go_ret
      exact ⟨rfl, G0⟩
    have HO := Lib.hid hod
    have hpos := putR_ne hoa hod
    have hln := putR_len la d
    have hne0 : (((putR la d).length : Int) == 0) = false := by simp only [beq_eq_false_iff_ne, ne_eq]; omega
    have HX := Lib.hid (putR_okB hoa hod)
    clear hod hpos
    go_wp2
    go_loopw [7, 8] (fun i _ wr => ∃ k : Int, 0 ≤ k ∧ k ≤ 6 ∧ i = .int .i64 k ∧ Below w7.heap.size w7 wr) (fun i _ _ => (6 - intOf i).toNat)
    case atStart => exact ⟨0, by omega, by omega, rfl, Below.refl _ _⟩
    case round =>
      obtain ⟨k, hk0, hk6, rfl, HB⟩ := hrel
      have own3 := own_below own3 HB
      have own4 := own_below own4 HB
      have BD := BD.below HB BD.lt
      have G0 := below_after G0 HB
      have rdla := rdla.below HB
      by_cases hlt : k < 6
      · skip
        go_wp2_with fail
        refine (DepsAt_impl la k pa ca _ rdla (by omega)).mono ?_
        rintro e w8 ⟨rfl, hb8⟩
        have own3 := own_below own3 hb8
        have own4 := own_below own4 hb8
        have BD := BD.below hb8 BD.lt
        have G0 := below_after G0 hb8
        have rdla := rdla.below hb8
        have ls8 := hb8.size
        have S1 := Blk.new w8 #[.int .i64 (atR la k).1, .int .i64 (atR la k).2] 30
        have hbS1 := below_box w8 (.cells #[.int .i64 (atR la k).1, .int .i64 (atR la k).2] 30)
        have BD := BD.alloc (.cells #[.int .i64 (atR la k).1, .int .i64 (atR la k).2] 30)
        have own3 := own_below own3 hbS1
        have own4 := own_below own4 hbS1
        have G0 := below_after G0 hbS1
        have rdla := rdla.below hbS1
        have HJ := Lib.hid (atR_putR HA.out HO.out k)
        have zz := HB.size
        have z78 : w7.heap.size ≤ w8.heap.size := by omega
        have z48 : w4.heap.size ≤ w8.heap.size := by omega
        have hnd : w1.heap.size ≠ w8.heap.size := by omega
        have nn := own_ne first4 z48
        by_cases hkd : d.1 = k
        · skip
          have hkd1 : (k == d.1) = true := by simpa using hkd.symm
          have hkd2 : d.1 = k := hkd
          have HJ2 : Hid (atR (putR la d) k = maxS (atR la k) d.2) := by show _ = _; rw [HJ.out, if_pos hkd2]
          clear hkd hkd2
          obtain ⟨BD0, BD1, BD2, BDf, BDl⟩ := BD.three
          obtain ⟨S10, S11, S1f, S1l⟩ := S1.two
          go_wp2_with fail
          refine (stampLess_impl _ _ _ _ _).mono ?_
          rintro e w9 ⟨rfl, hb9⟩
          have own3 := own_below own3 hb9
          have own4 := own_below own4 hb9
          have BD := BD.below hb9 BD.lt
          have S1 := S1.below hb9 S1.lt
          have G0 := below_after G0 hb9
          have rdla := rdla.below hb9
          have ls9 := hb9.size
          obtain ⟨BD0, BD1, BD2, BDf, BDl⟩ := BD.three
          obtain ⟨S10, S11, S1f, S1l⟩ := S1.two
          have G7 : Below w7.heap.size w7 w9 := below_after (below_alloc (below_after HB hb8) _) hb9
          cases hless : stampLessB (atR la k).1 (atR la k).2 d.2.1 d.2.2 with
          | true =>
            skip
            have HJJ : Hid (atR (putR la d) k = d.2) := by show _ = _; rw [HJ2.out, maxS, hless]; rfl
            have own4s := own_set (own_set own4 nn (o := 0) (.int .i64 d.2.1)) nn (o := 1) (.int .i64 d.2.2)
            have rdX := Reads.own own4s
            go_wp2
            refine region_over (by kernel_rfl) (by kernel_rfl) ?_
            repeat (go_big_quiet_step (first | (go_at_call 21; exact quiet_over (st_is HJJ.out (DepsAt_impl (putR la d) k p4 c4 _ (rdX.below (over_below _ _)) (by omega))))))
            refine wpQuiet_nil ?_
            intro w11 hb11
            go_wp2
            go_roundw
            case rel => exact ⟨k + 1, by omega, by omega, rfl, below_after (below_setb (below_setb G7 z78 _) z78 _) hb11⟩
            case measure => simp [intOf]; omega
          | false =>
            skip
            have HJJ : Hid (atR (putR la d) k = atR la k) := by show _ = _; rw [HJ2.out, maxS, hless]; rfl
            have rdX := Reads.own own4
            go_wp2
            refine region_over (by kernel_rfl) (by kernel_rfl) ?_
            repeat (go_big_quiet_step (first | (go_at_call 21; exact quiet_over (st_is HJJ.out (DepsAt_impl (putR la d) k p4 c4 _ (rdX.below (over_below _ _)) (by omega))))))
            refine wpQuiet_nil ?_
            intro w11 hb11
            go_wp2
            go_roundw
            case rel => exact ⟨k + 1, by omega, by omega, rfl, below_after (G7) hb11⟩
            case measure => simp [intOf]; omega
        · skip
          have hkd1 : (k == d.1) = false := by simp; omega
          have HJJ : Hid (atR (putR la d) k = atR la k) := by show _ = _; rw [HJ.out, if_neg hkd]
          have G7 : Below w7.heap.size w7 (w8.alloc (.cells #[.int .i64 (atR la k).1, .int .i64 (atR la k).2] 30)) := below_alloc (below_after HB hb8) _
          have rdX := Reads.own own4
          clear hkd
          obtain ⟨BD0, BD1, BD2, BDf, BDl⟩ := BD.three
          obtain ⟨S10, S11, S1f, S1l⟩ := S1.two
          go_wp2_with fail
          refine region_over (by kernel_rfl) (by kernel_rfl) ?_
          repeat (go_big_quiet_step (first | (go_at_call 21; exact quiet_over (st_is HJJ.out (DepsAt_impl (putR la d) k p4 c4 _ (rdX.below (over_below _ _)) (by omega))))))
          refine wpQuiet_nil ?_
          intro w11 hb11
          go_wp2
          go_roundw
          case rel => exact ⟨k + 1, by omega, by omega, rfl, below_after (G7) hb11⟩
          case measure => simp [intOf]; omega
      · skip
        go_wp2_with fail
        refine (depsOk_impl (putR la d) p4 c4 _ (Reads.own own4) (by omega)).mono ?_
        rintro e w12 ⟨rfl, hb12⟩
        have own3 := own_below own3 hb12
        have own4 := own_below own4 hb12
        have BD := BD.below hb12 BD.lt
        have G0 := below_after G0 hb12
        have rdla := rdla.below hb12
        have ls12 := hb12.size
        have hox := HX.out
        go_wp2
        go_ret
        exact ⟨rfl, G0⟩

set_option maxRecDepth 100000 in
theorem lifted (os : Os) (started : os.Started) (H : Type) (enc : TypeId × Value → H) :
    ReturnsInHanded {} Try.checked os 11 .any (Rows.fnDepsPutSpec.pre6 enc Try.prog Try.f11 Rows.fnDepsPutRow.domain false) (Rows.fnDepsPutSpec.post enc Try.prog Try.f11 false true false false) := by
  refine returnsInHanded_of_change (C := Try.checked) own started (by kernel_rfl) Try.func11
    (ChangeSpec.witness6 (enc := enc) (C := Try.checked) false ⟨#[], #[.slice none 0 0], []⟩ 8 (by kernel_rfl) (by kernel_rfl) (by kernel_rfl) (by kernel_rfl)) ?_
  intro W base args ds gs before hval0 hW hcnd _
  have hval : ∀ (j : Nat) t v, Try.f11.params[j]? = some t → args[j]? = some v → Value.okWide Try.prog W .any base t v := hval0
  have hW' := hW
  obtain ⟨p, q, hA0, hV, rfl, hfz, hnd⟩ := hW
  have hA : DataW.TrodAll enc Try.prog W 0 (fun _ => true) true Try.f11.params.toList args.toList ds p := hA0
  rw [Try.params11] at hA hval
  obtain ⟨v0, vs0, d0, ds0, p0, q0, hargs, rfl, rfl, h0, r0⟩ := trodAll_cons hA
  obtain ⟨rfl, rfl, rfl⟩ := trodAll_nil r0
  obtain rfl : args = #[v0] := by cases args; simp_all
  obtain ⟨rfl, rfl⟩ := trodVars_none hV
  have lt0 : ∀ x ∈ p0, x.block < W.heap.size := by obtain ⟨m, hm⟩ := h0; exact DataW.trod_lt m _ _ _ hm
  obtain ⟨a0, l0, k0, rfl, w0⟩ := bytes_of Try.underlying34 Try.underlying5 (by kernel_rfl) (hval 0 34 v0 rfl rfl) h0
  clear hA0 hval0
  refine (walk a0 l0 k0 W w0).mono fun e W' ⟨he, bel⟩ => ?_
  subst he
  exact ⟨_, rfl, _, _, _, [], _, [], hW', trodAll_mk1 (shut_bool Try.underlying4 _), (trodAll_cons_mk (Below.trod laidOut (by kernel_rfl) (of_decide_eq_true (by kernel_rfl)) h0 bel lt0) trodAll_mk0), rfl, bel.frame _, fun h => by cases h⟩

theorem over_row : Rows.fnDepsPutRow.holds Try.pinned (OpenSpec.ofChange Rows.fnDepsPutSpec) :=
  OpenClaim.holds_of_wide 11 Try.f11 rfl rfl rfl rfl rfl rfl rfl ⟨rfl, rfl, rfl, rfl, rfl⟩ rfl rfl rfl rfl rfl (by kernel_rfl) Try.func11 (by kernel_rfl)
    (of_decide_eq_true (by kernel_rfl)) (by unfold Func.isWrapper; first | (rw [if_pos (by decide +kernel)]; kernel_rfl) | (rw [if_neg (by decide +kernel)]; exact ⟨rfl, rfl⟩))
    (fun os started H enc _ => lifted os started H enc)

/-- The statement. -/
theorem proved : Rows.FnDepsPutSaid := over_row
end Go.Proofs.Ytfibddeafddjoaa.fnDepsPut
