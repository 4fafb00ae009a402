/- The newest version never gets older. Of every input that the given statement lets in. -/
import Derived.Test.YtbpdhilhohcinaaOpen
import Derived.Test.YtbpdhilhohcinaaDrawC2
import Derived.Test.YtbpdhilhohcinaaLiV
import Derived.Test.YtbpdhilhohcinaaPutVI
import Derived.Test.YtbpdhilhohcinaaTopW2
namespace Go.Proofs.Ytbpdhilhohcinaa.fnChainGrow
open Go.ChangeShapes Go.WideShapes Go.ChangeAt Go.RowKit
set_option linter.unusedVariables false
theorem gives_put {P : Program} {f : FuncId} {args : Array Value} {w : World} {l l' : List Vp} {b b' : Bool} (h : Calls P f args w (GivesVersB l b w)) (hl : l = l') (hb : b = b') : Calls P f args w (GivesVersB l' b' w) := by subst hl; subst hb; exact h
theorem few_put {A B : List Mv} {x : Vp} (h : Small A) (hl : A.length ≤ 140) (hx : x.deps.length ≤ 3) (hB : vs B = chainPutL (vs A) x) : Small B ∧ B.length ≤ A.length + 1 := small_put h hx hB
theorem grow_step {l L : List Vp} {v X Y : Vp} {k : Int} {x y : Bool} (hb : chainPutB l v = true) (hL : L = chainPutL l v) (hX : (topV l k).getD zeroV = X) (hx : (topV l k).isSome = x) (hY : (topV L k).getD zeroV = Y) (hy : (topV L k).isSome = y) (hxt : x = true) :
    y = true ∧ stampLessB Y.time Y.site X.time X.site = false ∧ (Y = X ∨ Y = v) := by
  subst hL
  have h1 := (good_iff l).2 ((putB_iff l v).1 hb).1
  have h2 := (good_iff _).2 (good_put hb)
  rw [putL_yes hb, topV_ok h2] at hY hy
  rw [topV_ok h1] at hX hx
  subst hxt
  obtain ⟨a, ha⟩ := Option.isSome_iff_exists.1 hx
  obtain ⟨b, e1, e2, e3⟩ := top_grow hb ha
  rw [ha] at hX
  rw [e1] at hY hy
  simp only [Option.getD_some] at hX hY
  subst hX; subst hY
  exact ⟨by rw [← hy]; rfl, e2, e3⟩
theorem liVer_eq (v u : Vp) (a a' : Option Addr) (c c' : Nat) (w : World) (h : v = u) (hr : Reads w a v.deps.length c (dpsC v.deps)) (hs : Reads w a' u.deps.length c' (dpsC u.deps)) :
    Calls Try.prog 36 #[.agg #[.int .i64 v.key, .int .i64 v.time, .int .i64 v.site, .int .i64 v.val, .int .i64 v.client, .int .i64 v.call, .slice a v.deps.length c], .agg #[.int .i64 u.key, .int .i64 u.time, .int .i64 u.site, .int .i64 u.val, .int .i64 u.client, .int .i64 u.call, .slice a' u.deps.length c']] w fun e w' => e = .returned (.bool true) ∧ Below w.heap.size w w' := by
  subst h; exact liVer_same v a a' c c' w hr hs
set_option maxRecDepth 100000 in
set_option maxHeartbeats 4000000 in
theorem walk (a0 : Option Addr) (l0 k0 : Nat) (w : World) (w0 : BytesIn w a0 l0 k0) :
    Calls Try.prog 14 #[.slice a0 l0 k0] w fun e w' => e = .returned (.bool true) ∧ Below w.heap.size w w' := by
  by_cases hbig : 1048576 < l0
  · have hbig' : (1048576 : Int) < (l0 : Int) := by omega
    go_enter Try.func14, Try.ntmps14
    go_wp2
    go_ret
    exact ⟨rfl, Below.refl _ _⟩
  · have hbig' : (l0 : Int) ≤ (1048576 : Int) := by omega
    go_enter Try.func14, Try.ntmps14
    go_wp2_with fail
    refine (DrawChainPut_any _ _ _ _ w0).mono ?_
    rintro e w1 ⟨l, pa, ca, m, rfl, hl1, hs1, hd1, vl1, rm1, hb1⟩
    have G0 := hb1
    have few1 := hs1.few hl1
    have BV := Blk.new w1 #[.int .i64 m.v.key, .int .i64 m.v.time, .int .i64 m.v.site, .int .i64 m.v.val, .int .i64 m.v.client, .int .i64 m.v.call, .slice m.a m.v.deps.length m.c] 54
    have hbBV := below_box w1 (.cells #[.int .i64 m.v.key, .int .i64 m.v.time, .int .i64 m.v.site, .int .i64 m.v.val, .int .i64 m.v.client, .int .i64 m.v.call, .slice m.a m.v.deps.length m.c] 54)
    have G0 := below_after G0 hbBV
    have vl1 := vl1.below hbBV
    have rm1 := rm1.below hbBV
    obtain ⟨b, hb_⟩ : ∃ b, chainPutB (vs l) m.v = b := ⟨_, rfl⟩
    have hbb : (b != b) = false := by cases b <;> rfl
    have hbe : (b == b) = true := by cases b <;> rfl
    have hB := Lib.hid hb_
    obtain ⟨BV0, BV1, BV2, BV3, BV4, BV5, BV6, BVf, BVl⟩ := BV.seven
    go_wp2_with fail
    refine (gives_put (ChainPut_spec l m.v pa m.a ca m.c _ vl1 few1 rm1 (by omega)) rfl hb_).mono ?_
    rintro e w3 ⟨v3, M3, rfl, hM3, T3, hb3⟩
    obtain ⟨p3, c3, rfl, V3⟩ := T3.open_
    have BV := BV.below hb3 BV.lt
    have G0 := below_after G0 hb3
    have vl1 := vl1.below hb3
    have rm1 := rm1.below hb3
    have hM3 := Lib.hid hM3
    clear T3
    obtain ⟨BV0, BV1, BV2, BV3, BV4, BV5, BV6, BVf, BVl⟩ := BV.seven
    go_wp2_with fail
    refine (gives_put (ChainPut_impl l m.v pa m.a ca m.c _ vl1 few1 rm1 (by omega)) rfl hb_).mono ?_
    rintro e w4 ⟨v4, M4, rfl, hM4, T4, hb4⟩
    obtain ⟨p4, c4, rfl, V4⟩ := T4.open_
    have BV := BV.below hb4 BV.lt
    have G0 := below_after G0 hb4
    have vl1 := vl1.below hb4
    have rm1 := rm1.below hb4
    have V3 := V3.below hb4
    have hM4 := Lib.hid hM4
    clear T4
    clear hb_
    obtain ⟨hs4, hl4⟩ := few_put hs1 hl1 hd1 hM4.out
    have few4 : Few M4 := ⟨by omega, fun y hy => by have := hs4 y hy; omega⟩
    obtain ⟨BV0, BV1, BV2, BV3, BV4, BV5, BV6, BVf, BVl⟩ := BV.seven
    go_wp2_with fail
    refine (liVers_same M4 M3 p4 p3 c4 c3 _ V4 V3 (by rw [hM4.out, hM3.out])).mono ?_
    rintro e w5 ⟨rfl, hb5⟩
    have BV := BV.below hb5 BV.lt
    have G0 := below_after G0 hb5
    have vl1 := vl1.below hb5
    have rm1 := rm1.below hb5
    have V3 := V3.below hb5
    have V4 := V4.below hb5
    have ls5 := hb5.size
    cases b with
    | false =>
      obtain ⟨BV0, BV1, BV2, BV3, BV4, BV5, BV6, BVf, BVl⟩ := BV.seven
      go_wp2_with fail
      refine (liVers_same M4 M3 p4 p3 c4 c3 _ V4 V3 (by rw [hM4.out, hM3.out])).mono ?_
      rintro e w6 ⟨rfl, hb6⟩
      have BV := BV.below hb6 BV.lt
      have G0 := below_after G0 hb6
      have vl1 := vl1.below hb6
      have rm1 := rm1.below hb6
      have V3 := V3.below hb6
      have V4 := V4.below hb6
      have ls6 := hb6.size
      go_wp2
      go_ret
      exact ⟨rfl, G0⟩
    | true =>
      go_wp2
      go_loopw [9, 10, 11, 12, 13] (fun i _ _ _ _ wr => ∃ k : Nat, k ≤ 6 ∧ i = .int .i64 k ∧ Below w5.heap.size w5 wr) (fun i _ _ _ _ _ => 6 - (intOf i).toNat)
      case atStart => exact ⟨0, by omega, rfl, Below.refl _ _⟩
      case round =>
        obtain ⟨k, hk, rfl, hbk⟩ := hrel
        have BV := BV.below hbk BV.lt
        have G0 := below_after G0 hbk
        have vl1 := vl1.below hbk
        have rm1 := rm1.below hbk
        have V3 := V3.below hbk
        have V4 := V4.below hbk
        obtain ⟨BV0, BV1, BV2, BV3, BV4, BV5, BV6, BVf, BVl⟩ := BV.seven
        by_cases hlt : k < 6
        · skip
          have hki : (k : Int) < 6 := by omega
          obtain ⟨X, hX⟩ : ∃ X, (topV (vs l) (k : Int)).getD zeroV = X := ⟨_, rfl⟩
          obtain ⟨x, hx_⟩ : ∃ x, (topV (vs l) (k : Int)).isSome = x := ⟨_, rfl⟩
          have hX := Lib.hid hX
          have hx_ := Lib.hid hx_
          obtain ⟨BV0, BV1, BV2, BV3, BV4, BV5, BV6, BVf, BVl⟩ := BV.seven
          go_wp2_with fail
          have sz7 := G0.size
          refine (gives_as (ChainTop_impl l (k : Int) pa ca _ vl1 few1) ⟨hX.out, hx_.out⟩).mono ?_
          rintro e w7 ⟨p7, c7, rfl, own7, hb7⟩
          have BV := BV.below hb7 BV.lt
          have G0 := below_after G0 hb7
          have vl1 := vl1.below hb7
          have rm1 := rm1.below hb7
          have V3 := V3.below hb7
          have V4 := V4.below hb7
          have first7 := own7
          have BX := Blk.new w7 #[.int .i64 X.key, .int .i64 X.time, .int .i64 X.site, .int .i64 X.val, .int .i64 X.client, .int .i64 X.call, .slice p7 X.deps.length c7] 54
          have hbBX := below_box w7 (.cells #[.int .i64 X.key, .int .i64 X.time, .int .i64 X.site, .int .i64 X.val, .int .i64 X.client, .int .i64 X.call, .slice p7 X.deps.length c7] 54)
          have BV := BV.alloc (.cells #[.int .i64 X.key, .int .i64 X.time, .int .i64 X.site, .int .i64 X.val, .int .i64 X.client, .int .i64 X.call, .slice p7 X.deps.length c7] 54)
          have own7 := own_below own7 hbBX
          have G0 := below_after G0 hbBX
          have vl1 := vl1.below hbBX
          have rm1 := rm1.below hbBX
          have V3 := V3.below hbBX
          have V4 := V4.below hbBX
          obtain ⟨Y, hY⟩ : ∃ Y, (topV (vs M4) (k : Int)).getD zeroV = Y := ⟨_, rfl⟩
          obtain ⟨y, hy_⟩ : ∃ y, (topV (vs M4) (k : Int)).isSome = y := ⟨_, rfl⟩
          have hY := Lib.hid hY
          have hy_ := Lib.hid hy_
          obtain ⟨BV0, BV1, BV2, BV3, BV4, BV5, BV6, BVf, BVl⟩ := BV.seven
          obtain ⟨BX0, BX1, BX2, BX3, BX4, BX5, BX6, BXf, BXl⟩ := BX.seven
          go_wp2_with fail
          have sz8 := G0.size
          refine (gives_as (ChainTop_impl M4 (k : Int) p4 c4 _ V4 few4) ⟨hY.out, hy_.out⟩).mono ?_
          rintro e w8 ⟨p8, c8, rfl, own8, hb8⟩
          have own7 := own_below own7 hb8
          have BV := BV.below hb8 BV.lt
          have BX := BX.below hb8 BX.lt
          have G0 := below_after G0 hb8
          have vl1 := vl1.below hb8
          have rm1 := rm1.below hb8
          have V3 := V3.below hb8
          have V4 := V4.below hb8
          have first8 := own8
          have BY := Blk.new w8 #[.int .i64 Y.key, .int .i64 Y.time, .int .i64 Y.site, .int .i64 Y.val, .int .i64 Y.client, .int .i64 Y.call, .slice p8 Y.deps.length c8] 54
          have hbBY := below_box w8 (.cells #[.int .i64 Y.key, .int .i64 Y.time, .int .i64 Y.site, .int .i64 Y.val, .int .i64 Y.client, .int .i64 Y.call, .slice p8 Y.deps.length c8] 54)
          have BV := BV.alloc (.cells #[.int .i64 Y.key, .int .i64 Y.time, .int .i64 Y.site, .int .i64 Y.val, .int .i64 Y.client, .int .i64 Y.call, .slice p8 Y.deps.length c8] 54)
          have BX := BX.alloc (.cells #[.int .i64 Y.key, .int .i64 Y.time, .int .i64 Y.site, .int .i64 Y.val, .int .i64 Y.client, .int .i64 Y.call, .slice p8 Y.deps.length c8] 54)
          have own7 := own_below own7 hbBY
          have own8 := own_below own8 hbBY
          have G0 := below_after G0 hbBY
          have vl1 := vl1.below hbBY
          have rm1 := rm1.below hbBY
          have V3 := V3.below hbBY
          have V4 := V4.below hbBY
          have HG := Lib.hid (grow_step hB.out hM4.out hX.out hx_.out hY.out hy_.out)
          have hbk8 := below_after (below_after (below_after (below_after hbk hb7) hbBX) hb8) hbBY
          cases x with
          | false =>
            obtain ⟨BV0, BV1, BV2, BV3, BV4, BV5, BV6, BVf, BVl⟩ := BV.seven
            obtain ⟨BX0, BX1, BX2, BX3, BX4, BX5, BX6, BXf, BXl⟩ := BX.seven
            obtain ⟨BY0, BY1, BY2, BY3, BY4, BY5, BY6, BYf, BYl⟩ := BY.seven
            go_wp2
            go_roundw
            case rel => exact ⟨k + 1, by omega, by go_num, hbk8⟩
            case measure => simp [intOf]; omega
          | true =>
              obtain ⟨hyt, hless, hor⟩ := HG.out rfl
              subst hyt
              have HOR := Lib.hid hor
              clear hor
              obtain ⟨BV0, BV1, BV2, BV3, BV4, BV5, BV6, BVf, BVl⟩ := BV.seven
              obtain ⟨BX0, BX1, BX2, BX3, BX4, BX5, BX6, BXf, BXl⟩ := BX.seven
              obtain ⟨BY0, BY1, BY2, BY3, BY4, BY5, BY6, BYf, BYl⟩ := BY.seven
              go_wp2_with fail
              refine (bool_is hless (stampLess_impl _ _ _ _ _)).mono ?_
              rintro e w9 ⟨rfl, hb9⟩
              have own7 := own_below own7 hb9
              have own8 := own_below own8 hb9
              have BV := BV.below hb9 BV.lt
              have BX := BX.below hb9 BX.lt
              have BY := BY.below hb9 BY.lt
              have G0 := below_after G0 hb9
              have vl1 := vl1.below hb9
              have rm1 := rm1.below hb9
              have V3 := V3.below hb9
              have V4 := V4.below hb9
              have ls9 := hb9.size
              have hbk9 := below_after hbk8 hb9
              clear hless
              obtain ⟨BV0, BV1, BV2, BV3, BV4, BV5, BV6, BVf, BVl⟩ := BV.seven
              obtain ⟨BX0, BX1, BX2, BX3, BX4, BX5, BX6, BXf, BXl⟩ := BX.seven
              obtain ⟨BY0, BY1, BY2, BY3, BY4, BY5, BY6, BYf, BYl⟩ := BY.seven
              by_cases h1 : Y.time = X.time
              · have h1' : (Y.time == X.time) = true := by simpa using h1
                by_cases h2 : Y.site = X.site
                · have h2' : (Y.site == X.site) = true := by simpa using h2
                  have h1 := Lib.hid h1
                  have h2 := Lib.hid h2
                  go_wp2
                  go_roundw
                  case rel => exact ⟨k + 1, by omega, by go_num, hbk9⟩
                  case measure => simp [intOf]; omega
                · have h2' : (Y.site == X.site) = false := by simpa using h2
                  have h1 := Lib.hid h1
                  have hYm : Y = m.v := by
                    rcases HOR.out with h | h
                    · exact absurd (by rw [h]) h2
                    · exact h
                  have h2 := Lib.hid h2
                  have HYM := Lib.hid hYm
                  clear hYm
                  obtain ⟨BV0, BV1, BV2, BV3, BV4, BV5, BV6, BVf, BVl⟩ := BV.seven
                  obtain ⟨BX0, BX1, BX2, BX3, BX4, BX5, BX6, BXf, BXl⟩ := BX.seven
                  obtain ⟨BY0, BY1, BY2, BY3, BY4, BY5, BY6, BYf, BYl⟩ := BY.seven
                  go_wp2_with fail
                  rw [← h1.out]
                  refine (liVer_eq Y m.v p8 m.a c8 m.c _ HYM.out (Reads.own own8) rm1).mono ?_
                  rintro e w10 ⟨rfl, hb10⟩
                  have own7 := own_below own7 hb10
                  have own8 := own_below own8 hb10
                  have BV := BV.below hb10 BV.lt
                  have BX := BX.below hb10 BX.lt
                  have BY := BY.below hb10 BY.lt
                  have G0 := below_after G0 hb10
                  have vl1 := vl1.below hb10
                  have rm1 := rm1.below hb10
                  have V3 := V3.below hb10
                  have V4 := V4.below hb10
                  have ls10 := hb10.size
                  obtain ⟨BV0, BV1, BV2, BV3, BV4, BV5, BV6, BVf, BVl⟩ := BV.seven
                  obtain ⟨BX0, BX1, BX2, BX3, BX4, BX5, BX6, BXf, BXl⟩ := BX.seven
                  obtain ⟨BY0, BY1, BY2, BY3, BY4, BY5, BY6, BYf, BYl⟩ := BY.seven
                  go_wp2
                  go_roundw
                  case rel => exact ⟨k + 1, by omega, by go_num, (below_after hbk9 hb10)⟩
                  case measure => simp [intOf]; omega
              · have h1' : (Y.time == X.time) = false := by simpa using h1
                have hYm : Y = m.v := by
                  rcases HOR.out with h | h
                  · exact absurd (by rw [h]) h1
                  · exact h
                have h1 := Lib.hid h1
                have HYM := Lib.hid hYm
                clear hYm
                obtain ⟨BV0, BV1, BV2, BV3, BV4, BV5, BV6, BVf, BVl⟩ := BV.seven
                obtain ⟨BX0, BX1, BX2, BX3, BX4, BX5, BX6, BXf, BXl⟩ := BX.seven
                obtain ⟨BY0, BY1, BY2, BY3, BY4, BY5, BY6, BYf, BYl⟩ := BY.seven
                go_wp2_with fail
                refine (liVer_eq Y m.v p8 m.a c8 m.c _ HYM.out (Reads.own own8) rm1).mono ?_
                rintro e w10 ⟨rfl, hb10⟩
                have own7 := own_below own7 hb10
                have own8 := own_below own8 hb10
                have BV := BV.below hb10 BV.lt
                have BX := BX.below hb10 BX.lt
                have BY := BY.below hb10 BY.lt
                have G0 := below_after G0 hb10
                have vl1 := vl1.below hb10
                have rm1 := rm1.below hb10
                have V3 := V3.below hb10
                have V4 := V4.below hb10
                have ls10 := hb10.size
                obtain ⟨BV0, BV1, BV2, BV3, BV4, BV5, BV6, BVf, BVl⟩ := BV.seven
                obtain ⟨BX0, BX1, BX2, BX3, BX4, BX5, BX6, BXf, BXl⟩ := BX.seven
                obtain ⟨BY0, BY1, BY2, BY3, BY4, BY5, BY6, BYf, BYl⟩ := BY.seven
                go_wp2
                go_roundw
                case rel => exact ⟨k + 1, by omega, by go_num, (below_after hbk9 hb10)⟩
                case measure => simp [intOf]; omega
        · skip
          obtain rfl : k = 6 := by omega
          go_wp2
          go_ret
          exact ⟨rfl, G0⟩

set_option maxRecDepth 100000 in
theorem lifted (os : Os) (started : os.Started) (H : Type) (enc : TypeId × Value → H) :
    ReturnsInHanded {} Try.checked os 14 .any (Rows.fnChainGrowSpec.pre6 enc Try.prog Try.f14 Rows.fnChainGrowRow.domain false) (Rows.fnChainGrowSpec.post enc Try.prog Try.f14 false true false false) := by
  refine returnsInHanded_of_change (C := Try.checked) own started (by kernel_rfl) Try.func14
    (ChangeSpec.witness6 (enc := enc) (C := Try.checked) false ⟨#[], #[.slice none 0 0], []⟩ 8 (by kernel_rfl) (by kernel_rfl) (by kernel_rfl) (by kernel_rfl)) ?_
  intro W base args ds gs before hval0 hW hcnd _
  have hval : ∀ (j : Nat) t v, Try.f14.params[j]? = some t → args[j]? = some v → Value.okWide Try.prog W .any base t v := hval0
  have hW' := hW
  obtain ⟨p, q, hA0, hV, rfl, hfz, hnd⟩ := hW
  have hA : DataW.TrodAll enc Try.prog W 0 (fun _ => true) true Try.f14.params.toList args.toList ds p := hA0
  rw [Try.params14] at hA hval
  obtain ⟨v0, vs0, d0, ds0, p0, q0, hargs, rfl, rfl, h0, r0⟩ := trodAll_cons hA
  obtain ⟨rfl, rfl, rfl⟩ := trodAll_nil r0
  obtain rfl : args = #[v0] := by cases args; simp_all
  obtain ⟨rfl, rfl⟩ := trodVars_none hV
  have lt0 : ∀ x ∈ p0, x.block < W.heap.size := by obtain ⟨m, hm⟩ := h0; exact DataW.trod_lt m _ _ _ hm
  obtain ⟨a0, l0, k0, rfl, w0⟩ := bytes_of Try.underlying44 Try.underlying5 (by kernel_rfl) (hval 0 44 v0 rfl rfl) h0
  clear hA0 hval0
  refine (walk a0 l0 k0 W w0).mono fun e W' ⟨he, bel⟩ => ?_
  subst he
  exact ⟨_, rfl, _, _, _, [], _, [], hW', trodAll_mk1 (shut_bool Try.underlying4 _), (trodAll_cons_mk (Below.trod laidOut (by kernel_rfl) (of_decide_eq_true (by kernel_rfl)) h0 bel lt0) trodAll_mk0), rfl, bel.frame _, fun h => by cases h⟩

theorem over_row : Rows.fnChainGrowRow.holds Try.pinned (OpenSpec.ofChange Rows.fnChainGrowSpec) :=
  OpenClaim.holds_of_wide 14 Try.f14 rfl rfl rfl rfl rfl rfl rfl ⟨rfl, rfl, rfl, rfl, rfl⟩ rfl rfl rfl rfl rfl (by kernel_rfl) Try.func14 (by kernel_rfl)
    (of_decide_eq_true (by kernel_rfl)) (by unfold Func.isWrapper; first | (rw [if_pos (by decide +kernel)]; kernel_rfl) | (rw [if_neg (by decide +kernel)]; exact ⟨rfl, rfl⟩))
    (fun os started H enc _ => lifted os started H enc)

/-- The statement. -/
theorem proved : Rows.FnChainGrowSaid := over_row
end Go.Proofs.Ytbpdhilhohcinaa.fnChainGrow
