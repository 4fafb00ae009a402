/- Joined dependencies have for each key the newer of both. Of every input that the given statement lets in. -/
import Derived.Test.YtfibddeafddjoaaOpen
import Derived.Test.YtfibddeafddjoaaDrawD
import Derived.Test.YtfibddeafddjoaaLi
import Derived.Test.YtfibddeafddjoaaDepsM
namespace Go.Proofs.Ytfibddeafddjoaa.fnDepsJoin
open Go.ChangeShapes Go.WideShapes Go.ChangeAt Go.RowKit
set_option linter.unusedVariables false
theorem st_is {P : Program} {f : FuncId} {args : Array Value} {w : World} {s s' : Int × Int} (h : s = s') (hc : Calls P f args w (GivesSt s w)) : Calls P f args w fun e w' => e = .returned (.agg #[.int .i64 s'.1, .int .i64 s'.2]) ∧ Below w.heap.size w w' := h ▸ hc
set_option maxHeartbeats 1000000 in
theorem walk (a0 : Option Addr) (l0 k0 : Nat) (w : World) (w0 : BytesIn w a0 l0 k0) :
    Calls Try.prog 14 #[.slice a0 l0 k0] w fun e w' => e = .returned (.bool true) ∧ Below w.heap.size w w' := by
  by_cases hbig : 1048576 < l0
  · have hbig' : (1048576 : Int) < (l0 : Int) := by omega
    go_enter Try.func14, Try.ntmps14
    go_wp2
    go_ret
    exact ⟨rfl, Below.refl _ _⟩
  · have hbig' : (l0 : Int) ≤ (1048576 : Int) := by omega
    go_enter Try.func14, Try.ntmps14
    go_wp2_with fail
    refine (DrawDepsJoin_any _ _ _ _ w0).mono ?_
    rintro e w1 ⟨la, lb, pa, pb, ca, cb, rfl, hla, hlb, rda, rdb, hb1⟩
    have G0 := hb1
    go_wp2_with fail
    have sz3 := G0.size
    refine (DepsJoin_spec la lb pa pb ca cb _ rda rdb (by omega) (by omega)).mono ?_
    rintro e w3 ⟨v3, rfl, own3, hb3⟩
    obtain ⟨p3, c3, rfl, rd3⟩ := Reads.of_owns own3
    have G0 := below_after G0 hb3
    have rda := rda.below hb3
    have rdb := rdb.below hb3
    have first3 := own3
    have ls3 := hb3.size
    go_wp2_with fail
    have sz4 := G0.size
    refine (DepsJoin_impl la lb pa pb ca cb _ rda rdb (by omega) (by omega)).mono ?_
    rintro e w4 ⟨v4, rfl, own4, hb4⟩
    obtain ⟨p4, c4, rfl, rd4⟩ := Reads.of_owns own4
    have own3 := own_below own3 hb4
    have G0 := below_after G0 hb4
    have rda := rda.below hb4
    have rdb := rdb.below hb4
    have first4 := own4
    have ls4 := hb4.size
    go_wp2_with fail
    refine (liDeps_same (joinR la lb) p4 p3 c4 c3 _ (Reads.own own4) (Reads.own own3)).mono ?_
    rintro e w5 ⟨rfl, hb5⟩
    have own3 := own_below own3 hb5
    have own4 := own_below own4 hb5
    have G0 := below_after G0 hb5
    have rda := rda.below hb5
    have rdb := rdb.below hb5
    have ls5 := hb5.size
    go_wp2_with fail
    refine (depsOk_spec la pa ca _ rda (by omega)).mono ?_
    rintro e w6 ⟨rfl, hb6⟩
    have own3 := own_below own3 hb6
    have own4 := own_below own4 hb6
    have G0 := below_after G0 hb6
    have rda := rda.below hb6
    have rdb := rdb.below hb6
    have ls6 := hb6.size
    rcases hoa : depsOkB la with _ | _
    · skip
      go_wp2_with fail
      refine (liDeps_same (joinR la lb) p4 p3 c4 c3 _ (Reads.own own4) (Reads.own own3)).mono ?_
      rintro e w21 ⟨rfl, hb21⟩
      have own3 := own_below own3 hb21
      have own4 := own_below own4 hb21
      have G0 := below_after G0 hb21
      have rda := rda.below hb21
      have rdb := rdb.below hb21
      have ls21 := hb21.size
      go_wp2
      go_ret
      exact ⟨rfl, G0⟩
    have HA := Lib.hid hoa
    go_wp2_with fail
    refine (depsOk_spec lb pb cb _ rdb (by omega)).mono ?_
    rintro e w7 ⟨rfl, hb7⟩
    have own3 := own_below own3 hb7
    have own4 := own_below own4 hb7
    have G0 := below_after G0 hb7
    have rda := rda.below hb7
    have rdb := rdb.below hb7
    have ls7 := hb7.size
    rcases hob : depsOkB lb with _ | _
    · skip
      go_wp2_with fail
      refine (liDeps_same (joinR la lb) p4 p3 c4 c3 _ (Reads.own own4) (Reads.own own3)).mono ?_
      rintro e w21 ⟨rfl, hb21⟩
      have own3 := own_below own3 hb21
      have own4 := own_below own4 hb21
      have G0 := below_after G0 hb21
      have rda := rda.below hb21
      have rdb := rdb.below hb21
      have ls21 := hb21.size
      go_wp2
      go_ret
      exact ⟨rfl, G0⟩
    have HB := Lib.hid hob
    have hj := depsOk_len (joinR_okB hoa hob)
    have HO := Lib.hid (joinR_okB hoa hob)
    have HCM := Lib.hid (joinR_comm hoa hob)
    go_wp2
    go_loopw [7, 8, 9] (fun i _ _ wr => ∃ k : Int, 0 ≤ k ∧ k ≤ 6 ∧ i = .int .i64 k ∧ Below w7.heap.size w7 wr) (fun i _ _ _ => (6 - intOf i).toNat)
    case atStart => exact ⟨0, by omega, by omega, rfl, Below.refl _ _⟩
    case round =>
      obtain ⟨k, hk0, hk6, rfl, HB⟩ := hrel
      have own3 := own_below own3 HB
      have own4 := own_below own4 HB
      have G0 := below_after G0 HB
      have rda := rda.below HB
      have rdb := rdb.below HB
      by_cases hlt : k < 6
      · skip
        go_wp2_with fail
        refine (DepsAt_impl la k pa ca _ rda (by omega)).mono ?_
        rintro e w8 ⟨rfl, hb8⟩
        have own3 := own_below own3 hb8
        have own4 := own_below own4 hb8
        have G0 := below_after G0 hb8
        have rda := rda.below hb8
        have rdb := rdb.below hb8
        have ls8 := hb8.size
        go_wp2_with fail
        have S1 := Blk.new w8 #[.int .i64 (atR la k).1, .int .i64 (atR la k).2] 30
        have hbS := below_box w8 (.cells #[.int .i64 (atR la k).1, .int .i64 (atR la k).2] 30)
        have own3 := own_below own3 hbS
        have own4 := own_below own4 hbS
        have G0 := below_after G0 hbS
        have rda := rda.below hbS
        have rdb := rdb.below hbS
        refine (DepsAt_impl lb k pb cb _ rdb (by omega)).mono ?_
        rintro e w9 ⟨rfl, hb9⟩
        have own3 := own_below own3 hb9
        have own4 := own_below own4 hb9
        have S1 := S1.below hb9 S1.lt
        have G0 := below_after G0 hb9
        have rda := rda.below hb9
        have rdb := rdb.below hb9
        have ls9 := hb9.size
        obtain ⟨s0, s1, sf, sl⟩ := S1.two
        go_wp2_with fail
        have T1 := Blk.new w9 #[.int .i64 (atR lb k).1, .int .i64 (atR lb k).2] 30
        have hbT := below_box w9 (.cells #[.int .i64 (atR lb k).1, .int .i64 (atR lb k).2] 30)
        have own3 := own_below own3 hbT
        have own4 := own_below own4 hbT
        have S1 := S1.below hbT S1.lt
        have G0 := below_after G0 hbT
        have rda := rda.below hbT
        have rdb := rdb.below hbT
        refine (stampLess_impl _ _ _ _ _).mono ?_
        rintro e w10 ⟨rfl, hb10⟩
        have own3 := own_below own3 hb10
        have own4 := own_below own4 hb10
        have S1 := S1.below hb10 S1.lt
        have T1 := T1.below hb10 T1.lt
        have G0 := below_after G0 hb10
        have rda := rda.below hb10
        have rdb := rdb.below hb10
        have ls10 := hb10.size
        obtain ⟨s0, s1, sf, sl⟩ := S1.two
        obtain ⟨t0, t1, tf, tl⟩ := T1.two
        have HJ := Lib.hid (atR_joinR hoa hob k)
        have zz := HB.size
        have z47 : w4.heap.size ≤ w8.heap.size := by omega
        have nn := own_ne first4 z47
        have G7 : Below w7.heap.size w7 w10 := below_after (below_alloc (below_after (below_alloc (below_after HB hb8) _) hb9) _) hb10
        have z78 : w7.heap.size ≤ w8.heap.size := by omega
        cases hless : stampLessB (atR la k).1 (atR la k).2 (atR lb k).1 (atR lb k).2 with
        | true =>
          have hJ : atR (joinR la lb) k = atR lb k := by rw [HJ.out, maxS, hless]; rfl
          have own4s := own_set (own_set own4 nn (o := 0) (.int .i64 (atR lb k).1)) nn (o := 1) (.int .i64 (atR lb k).2)
          have rdX := Reads.own own4s
          have HJJ := Lib.hid hJ
          clear hJ
          go_wp2
          refine region_over (by kernel_rfl) (by kernel_rfl) ?_
          repeat (go_big_quiet_step (first | (go_at_call 21; exact quiet_over (st_is HJJ.out (DepsAt_impl (joinR la lb) k p4 c4 _ (rdX.below (over_below _ _)) (by omega))))))
          refine wpQuiet_nil ?_
          intro w11 hb11
          go_wp2
          go_roundw
          case rel => exact ⟨k + 1, by omega, by omega, rfl, below_after (below_setb (below_setb G7 z78 _) z78 _) hb11⟩
          case measure => simp [intOf]; omega
        | false =>
          have hJ : atR (joinR la lb) k = atR la k := by rw [HJ.out, maxS, hless]; rfl
          have rdX := Reads.own own4
          have HJJ := Lib.hid hJ
          clear hJ
          go_wp2
          refine region_over (by kernel_rfl) (by kernel_rfl) ?_
          repeat (go_big_quiet_step (first | (go_at_call 21; exact quiet_over (st_is HJJ.out (DepsAt_impl (joinR la lb) k p4 c4 _ (rdX.below (over_below _ _)) (by omega))))))
          refine wpQuiet_nil ?_
          intro w11 hb11
          go_wp2
          go_roundw
          case rel => exact ⟨k + 1, by omega, by omega, rfl, below_after (G7) hb11⟩
          case measure => simp [intOf]; omega
      · skip
        go_wp2_with fail
        refine (depsOk_impl (joinR la lb) p4 c4 _ (Reads.own own4) (by omega)).mono ?_
        rintro e w12 ⟨rfl, hb12⟩
        have own3 := own_below own3 hb12
        have own4 := own_below own4 hb12
        have G0 := below_after G0 hb12
        have rda := rda.below hb12
        have rdb := rdb.below hb12
        have ls12 := hb12.size
        have hoj := HO.out
        go_wp2_with fail
        have sz13 := G0.size
        refine (DepsJoin_impl lb la pb pa cb ca _ rdb rda (by omega) (by omega)).mono ?_
        rintro e w13 ⟨v13, rfl, own13, hb13⟩
        obtain ⟨p13, c13, rfl, rd13⟩ := Reads.of_owns own13
        have own3 := own_below own3 hb13
        have own4 := own_below own4 hb13
        have G0 := below_after G0 hb13
        have rda := rda.below hb13
        have rdb := rdb.below hb13
        have first13 := own13
        have ls13 := hb13.size
        rw [HCM.out] at own13
        go_wp2_with fail
        rw [HCM.out]
        refine (liDeps_same (joinR la lb) p13 p4 c13 c4 _ (Reads.own own13) (Reads.own own4)).mono ?_
        rintro e w14 ⟨rfl, hb14⟩
        have own3 := own_below own3 hb14
        have own4 := own_below own4 hb14
        have own13 := own_below own13 hb14
        have G0 := below_after G0 hb14
        have rda := rda.below hb14
        have rdb := rdb.below hb14
        have ls14 := hb14.size
        go_wp2
        go_ret
        exact ⟨rfl, G0⟩

set_option maxRecDepth 100000 in
theorem lifted (os : Os) (started : os.Started) (H : Type) (enc : TypeId × Value → H) :
    ReturnsInHanded {} Try.checked os 14 .any (Rows.fnDepsJoinSpec.pre6 enc Try.prog Try.f14 Rows.fnDepsJoinRow.domain false) (Rows.fnDepsJoinSpec.post enc Try.prog Try.f14 false true false false) := by
  refine returnsInHanded_of_change (C := Try.checked) own started (by kernel_rfl) Try.func14
    (ChangeSpec.witness6 (enc := enc) (C := Try.checked) false ⟨#[], #[.slice none 0 0], []⟩ 8 (by kernel_rfl) (by kernel_rfl) (by kernel_rfl) (by kernel_rfl)) ?_
  intro W base args ds gs before hval0 hW hcnd _
  have hval : ∀ (j : Nat) t v, Try.f14.params[j]? = some t → args[j]? = some v → Value.okWide Try.prog W .any base t v := hval0
  have hW' := hW
  obtain ⟨p, q, hA0, hV, rfl, hfz, hnd⟩ := hW
  have hA : DataW.TrodAll enc Try.prog W 0 (fun _ => true) true Try.f14.params.toList args.toList ds p := hA0
  rw [Try.params14] at hA hval
  obtain ⟨v0, vs0, d0, ds0, p0, q0, hargs, rfl, rfl, h0, r0⟩ := trodAll_cons hA
  obtain ⟨rfl, rfl, rfl⟩ := trodAll_nil r0
  obtain rfl : args = #[v0] := by cases args; simp_all
  obtain ⟨rfl, rfl⟩ := trodVars_none hV
  have lt0 : ∀ x ∈ p0, x.block < W.heap.size := by obtain ⟨m, hm⟩ := h0; exact DataW.trod_lt m _ _ _ hm
  obtain ⟨a0, l0, k0, rfl, w0⟩ := bytes_of Try.underlying34 Try.underlying5 (by kernel_rfl) (hval 0 34 v0 rfl rfl) h0
  clear hA0 hval0
  refine (walk a0 l0 k0 W w0).mono fun e W' ⟨he, bel⟩ => ?_
  subst he
  exact ⟨_, rfl, _, _, _, [], _, [], hW', trodAll_mk1 (shut_bool Try.underlying4 _), (trodAll_cons_mk (Below.trod laidOut (by kernel_rfl) (of_decide_eq_true (by kernel_rfl)) h0 bel lt0) trodAll_mk0), rfl, bel.frame _, fun h => by cases h⟩

theorem over_row : Rows.fnDepsJoinRow.holds Try.pinned (OpenSpec.ofChange Rows.fnDepsJoinSpec) :=
  OpenClaim.holds_of_wide 14 Try.f14 rfl rfl rfl rfl rfl rfl rfl ⟨rfl, rfl, rfl, rfl, rfl⟩ rfl rfl rfl rfl rfl (by kernel_rfl) Try.func14 (by kernel_rfl)
    (of_decide_eq_true (by kernel_rfl)) (by unfold Func.isWrapper; first | (rw [if_pos (by decide +kernel)]; kernel_rfl) | (rw [if_neg (by decide +kernel)]; exact ⟨rfl, rfl⟩))
    (fun os started H enc _ => lifted os started H enc)

/-- The statement. -/
theorem proved : Rows.FnDepsJoinSaid := over_row
end Go.Proofs.Ytfibddeafddjoaa.fnDepsJoin
