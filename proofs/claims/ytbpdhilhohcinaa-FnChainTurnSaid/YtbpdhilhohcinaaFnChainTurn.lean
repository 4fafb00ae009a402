/- Two versions can be put in either order. Of every input that the given statement lets in. -/
import Derived.Test.YtbpdhilhohcinaaOpen
import Derived.Test.YtbpdhilhohcinaaDrawC2
import Derived.Test.YtbpdhilhohcinaaLiV
import Derived.Test.YtbpdhilhohcinaaPutVI
namespace Go.Proofs.Ytbpdhilhohcinaa.fnChainTurn
open Go.ChangeShapes Go.WideShapes Go.ChangeAt Go.RowKit
set_option linter.unusedVariables false
theorem gives_put {P : Program} {f : FuncId} {args : Array Value} {w : World} {l l' : List Vp} {b b' : Bool} (h : Calls P f args w (GivesVersB l b w)) (hl : l = l') (hb : b = b') : Calls P f args w (GivesVersB l' b' w) := by subst hl; subst hb; exact h
theorem few_put {A B : List Mv} {x : Vp} (h : Small A) (hl : A.length ≤ 140) (hx : x.deps.length ≤ 3) (hB : vs B = chainPutL (vs A) x) : Small B ∧ B.length ≤ A.length + 1 := small_put h hx hB
set_option maxRecDepth 100000 in
set_option maxHeartbeats 4000000 in
theorem walk (a0 : Option Addr) (l0 k0 : Nat) (a1 : Option Addr) (l1 k1 : Nat) (w : World) (w0 : BytesIn w a0 l0 k0) (w1 : BytesIn w a1 l1 k1) :
    Calls Try.prog 12 #[.slice a0 l0 k0, .slice a1 l1 k1] w fun e w' => e = .returned (.bool true) ∧ Below w.heap.size w w' := by
  by_cases hbig : 1048576 < l0
  · have hbig' : (1048576 : Int) < (l0 : Int) := by omega
    go_enter Try.func12, Try.ntmps12
    go_wp2
    go_ret
    exact ⟨rfl, Below.refl _ _⟩
  · have hbig' : (l0 : Int) ≤ (1048576 : Int) := by omega
    by_cases hbih : 1048576 < l1
    · have hbih' : (1048576 : Int) < (l1 : Int) := by omega
      go_enter Try.func12, Try.ntmps12
      go_wp2
      go_ret
      exact ⟨rfl, Below.refl _ _⟩
    · have hbih' : (l1 : Int) ≤ (1048576 : Int) := by omega
      have w1_ := w1
      clear w1
      go_enter Try.func12, Try.ntmps12
      go_wp2_with fail
      refine (DrawChainPut_any _ _ _ _ w0).mono ?_
      rintro e w1 ⟨l, pa, ca, m, rfl, hl1, hs1, hd1, vl1, rm1, hb1⟩
      have G0 := hb1
      have few1 := hs1.few hl1
      have BV := Blk.new w1 #[.int .i64 m.v.key, .int .i64 m.v.time, .int .i64 m.v.site, .int .i64 m.v.val, .int .i64 m.v.client, .int .i64 m.v.call, .slice m.a m.v.deps.length m.c] 54
      have hbBV := below_box w1 (.cells #[.int .i64 m.v.key, .int .i64 m.v.time, .int .i64 m.v.site, .int .i64 m.v.val, .int .i64 m.v.client, .int .i64 m.v.call, .slice m.a m.v.deps.length m.c] 54)
      have G0 := below_after G0 hbBV
      have vl1 := vl1.below hbBV
      have rm1 := rm1.below hbBV
      go_wp2_with fail
      refine (DrawChainPut_any _ _ _ _ (w1_.below G0)).mono ?_
      rintro e w2 ⟨l', pb, cb, u, rfl, hl2, hs2, hd2, vl2, rm2, hb2⟩
      have BV := BV.below hb2 BV.lt
      have G0 := below_after G0 hb2
      have vl1 := vl1.below hb2
      have rm1 := rm1.below hb2
      have few2 := hs2.few hl2
      have BU := Blk.new w2 #[.int .i64 u.v.key, .int .i64 u.v.time, .int .i64 u.v.site, .int .i64 u.v.val, .int .i64 u.v.client, .int .i64 u.v.call, .slice u.a u.v.deps.length u.c] 54
      have hbBU := below_box w2 (.cells #[.int .i64 u.v.key, .int .i64 u.v.time, .int .i64 u.v.site, .int .i64 u.v.val, .int .i64 u.v.client, .int .i64 u.v.call, .slice u.a u.v.deps.length u.c] 54)
      have BV := BV.alloc (.cells #[.int .i64 u.v.key, .int .i64 u.v.time, .int .i64 u.v.site, .int .i64 u.v.val, .int .i64 u.v.client, .int .i64 u.v.call, .slice u.a u.v.deps.length u.c] 54)
      have G0 := below_after G0 hbBU
      have vl1 := vl1.below hbBU
      have rm1 := rm1.below hbBU
      have vl2 := vl2.below hbBU
      have rm2 := rm2.below hbBU
      obtain ⟨b, hb_⟩ : ∃ b, chainPutB (vs l) m.v = b := ⟨_, rfl⟩
      have hbb : (b != b) = false := by cases b <;> rfl
      have hbe : (b == b) = true := by cases b <;> rfl
      have hB := Lib.hid hb_
      obtain ⟨BV0, BV1, BV2, BV3, BV4, BV5, BV6, BVf, BVl⟩ := BV.seven
      obtain ⟨BU0, BU1, BU2, BU3, BU4, BU5, BU6, BUf, BUl⟩ := BU.seven
      go_wp2_with fail
      refine (gives_put (ChainPut_spec l m.v pa m.a ca m.c _ vl1 few1 rm1 (by omega)) rfl hb_).mono ?_
      rintro e w3 ⟨v3, M3, rfl, hM3, T3, hb3⟩
      obtain ⟨p3, c3, rfl, V3⟩ := T3.open_
      have BV := BV.below hb3 BV.lt
      have BU := BU.below hb3 BU.lt
      have G0 := below_after G0 hb3
      have vl1 := vl1.below hb3
      have rm1 := rm1.below hb3
      have vl2 := vl2.below hb3
      have rm2 := rm2.below hb3
      have hM3 := Lib.hid hM3
      clear T3
      obtain ⟨BV0, BV1, BV2, BV3, BV4, BV5, BV6, BVf, BVl⟩ := BV.seven
      obtain ⟨BU0, BU1, BU2, BU3, BU4, BU5, BU6, BUf, BUl⟩ := BU.seven
      go_wp2_with fail
      refine (gives_put (ChainPut_impl l m.v pa m.a ca m.c _ vl1 few1 rm1 (by omega)) rfl hb_).mono ?_
      rintro e w4 ⟨v4, M4, rfl, hM4, T4, hb4⟩
      obtain ⟨p4, c4, rfl, V4⟩ := T4.open_
      have BV := BV.below hb4 BV.lt
      have BU := BU.below hb4 BU.lt
      have G0 := below_after G0 hb4
      have vl1 := vl1.below hb4
      have rm1 := rm1.below hb4
      have vl2 := vl2.below hb4
      have rm2 := rm2.below hb4
      have V3 := V3.below hb4
      have hM4 := Lib.hid hM4
      clear T4
      clear hb_
      obtain ⟨hs4, hl4⟩ := few_put hs1 hl1 hd1 hM4.out
      have few4 : Few M4 := ⟨by omega, fun y hy => by have := hs4 y hy; omega⟩
      obtain ⟨BV0, BV1, BV2, BV3, BV4, BV5, BV6, BVf, BVl⟩ := BV.seven
      obtain ⟨BU0, BU1, BU2, BU3, BU4, BU5, BU6, BUf, BUl⟩ := BU.seven
      go_wp2_with fail
      refine (liVers_same M4 M3 p4 p3 c4 c3 _ V4 V3 (by rw [hM4.out, hM3.out])).mono ?_
      rintro e w5 ⟨rfl, hb5⟩
      have BV := BV.below hb5 BV.lt
      have BU := BU.below hb5 BU.lt
      have G0 := below_after G0 hb5
      have vl1 := vl1.below hb5
      have rm1 := rm1.below hb5
      have vl2 := vl2.below hb5
      have rm2 := rm2.below hb5
      have V3 := V3.below hb5
      have V4 := V4.below hb5
      have ls5 := hb5.size
      cases b with
      | false =>
        obtain ⟨BV0, BV1, BV2, BV3, BV4, BV5, BV6, BVf, BVl⟩ := BV.seven
        obtain ⟨BU0, BU1, BU2, BU3, BU4, BU5, BU6, BUf, BUl⟩ := BU.seven
        go_wp2_with fail
        refine (liVers_same M4 M3 p4 p3 c4 c3 _ V4 V3 (by rw [hM4.out, hM3.out])).mono ?_
        rintro e w6 ⟨rfl, hb6⟩
        have BV := BV.below hb6 BV.lt
        have BU := BU.below hb6 BU.lt
        have G0 := below_after G0 hb6
        have vl1 := vl1.below hb6
        have rm1 := rm1.below hb6
        have vl2 := vl2.below hb6
        have rm2 := rm2.below hb6
        have V3 := V3.below hb6
        have V4 := V4.below hb6
        have ls6 := hb6.size
        go_wp2
        go_ret
        exact ⟨rfl, G0⟩
      | true =>
        have hM4v : Hid (vs M4 = putV (vs l) m.v) := by show _ = _; rw [hM4.out, putL_yes hB.out]
        obtain ⟨d, hd⟩ : ∃ d, chainPutB (vs M4) u.v = d := ⟨_, rfl⟩
        obtain ⟨f1, hf1⟩ : ∃ f1, chainPutB (vs l) u.v = f1 := ⟨_, rfl⟩
        have HD := Lib.hid hd
        have HF := Lib.hid hf1
        obtain ⟨BV0, BV1, BV2, BV3, BV4, BV5, BV6, BVf, BVl⟩ := BV.seven
        obtain ⟨BU0, BU1, BU2, BU3, BU4, BU5, BU6, BUf, BUl⟩ := BU.seven
        go_wp2_with fail
        refine (gives_put (ChainPut_impl M4 u.v p4 u.a c4 u.c _ V4 few4 rm2 (by omega)) rfl hd).mono ?_
        rintro e w6 ⟨v6, M6, rfl, hM6, T6, hb6⟩
        obtain ⟨p6, c6, rfl, V6⟩ := T6.open_
        have BV := BV.below hb6 BV.lt
        have BU := BU.below hb6 BU.lt
        have G0 := below_after G0 hb6
        have vl1 := vl1.below hb6
        have rm1 := rm1.below hb6
        have vl2 := vl2.below hb6
        have rm2 := rm2.below hb6
        have V3 := V3.below hb6
        have V4 := V4.below hb6
        have hM6 := Lib.hid hM6
        clear T6
        obtain ⟨BV0, BV1, BV2, BV3, BV4, BV5, BV6, BVf, BVl⟩ := BV.seven
        obtain ⟨BU0, BU1, BU2, BU3, BU4, BU5, BU6, BUf, BUl⟩ := BU.seven
        go_wp2_with fail
        refine (gives_put (ChainPut_impl l u.v pa u.a ca u.c _ vl1 few1 rm2 (by omega)) rfl hf1).mono ?_
        rintro e w7 ⟨v7, M7, rfl, hM7, T7, hb7⟩
        obtain ⟨p7, c7, rfl, V7⟩ := T7.open_
        have BV := BV.below hb7 BV.lt
        have BU := BU.below hb7 BU.lt
        have G0 := below_after G0 hb7
        have vl1 := vl1.below hb7
        have rm1 := rm1.below hb7
        have vl2 := vl2.below hb7
        have rm2 := rm2.below hb7
        have V3 := V3.below hb7
        have V4 := V4.below hb7
        have V6 := V6.below hb7
        have hM7 := Lib.hid hM7
        clear T7
        clear hd hf1
        obtain ⟨hs7, hl7⟩ := few_put hs1 hl1 hd2 hM7.out
        have few7 : Few M7 := ⟨by omega, fun y hy => by have := hs7 y hy; omega⟩
        obtain ⟨s1, hs1_⟩ : ∃ s1, chainPutB (vs M7) m.v = s1 := ⟨_, rfl⟩
        have HS := Lib.hid hs1_
        obtain ⟨BV0, BV1, BV2, BV3, BV4, BV5, BV6, BVf, BVl⟩ := BV.seven
        obtain ⟨BU0, BU1, BU2, BU3, BU4, BU5, BU6, BUf, BUl⟩ := BU.seven
        go_wp2_with fail
        refine (gives_put (ChainPut_impl M7 m.v p7 m.a c7 m.c _ V7 few7 rm1 (by omega)) rfl hs1_).mono ?_
        rintro e w8 ⟨v8, M8, rfl, hM8, T8, hb8⟩
        obtain ⟨p8, c8, rfl, V8⟩ := T8.open_
        have BV := BV.below hb8 BV.lt
        have BU := BU.below hb8 BU.lt
        have G0 := below_after G0 hb8
        have vl1 := vl1.below hb8
        have rm1 := rm1.below hb8
        have vl2 := vl2.below hb8
        have rm2 := rm2.below hb8
        have V3 := V3.below hb8
        have V4 := V4.below hb8
        have V6 := V6.below hb8
        have V7 := V7.below hb8
        have hM8 := Lib.hid hM8
        clear T8
        clear hs1_
        cases d with
        | false =>
          go_wp2
          go_ret
          exact ⟨rfl, G0⟩
        | true =>
          have hpt := put_turn hB.out (by rw [← hM4v.out]; exact HD.out)
          have e1 : f1 = true := by rw [← HF.out]; exact hpt.1
          have HM7 : Hid (vs M7 = putV (vs l) u.v) := by show _ = _; rw [hM7.out, putL_yes hpt.1]
          have e2 : s1 = true := by rw [← HS.out, HM7.out]; exact hpt.2.1
          have HEQ : Hid (vs M6 = vs M8) := by
            show _ = _
            rw [hM6.out, hM8.out, HM7.out, putL_yes hpt.2.1, putL_yes HD.out, hM4v.out]; exact hpt.2.2.symm
          clear hpt
          subst e1
          subst e2
          obtain ⟨BV0, BV1, BV2, BV3, BV4, BV5, BV6, BVf, BVl⟩ := BV.seven
          obtain ⟨BU0, BU1, BU2, BU3, BU4, BU5, BU6, BUf, BUl⟩ := BU.seven
          go_wp2_with fail
          refine (liVers_same M8 M6 p8 p6 c8 c6 _ V8 V6 HEQ.out).mono ?_
          rintro e w9 ⟨rfl, hb9⟩
          have BV := BV.below hb9 BV.lt
          have BU := BU.below hb9 BU.lt
          have G0 := below_after G0 hb9
          have vl1 := vl1.below hb9
          have rm1 := rm1.below hb9
          have vl2 := vl2.below hb9
          have rm2 := rm2.below hb9
          have V3 := V3.below hb9
          have V4 := V4.below hb9
          have V6 := V6.below hb9
          have V7 := V7.below hb9
          have V8 := V8.below hb9
          have ls9 := hb9.size
          go_wp2
          go_ret
          exact ⟨rfl, G0⟩

set_option maxRecDepth 100000 in
theorem lifted (os : Os) (started : os.Started) (H : Type) (enc : TypeId × Value → H) :
    ReturnsInHanded {} Try.checked os 12 .any (Rows.fnChainTurnSpec.pre6 enc Try.prog Try.f12 Rows.fnChainTurnRow.domain false) (Rows.fnChainTurnSpec.post enc Try.prog Try.f12 false true false false) := by
  refine returnsInHanded_of_change (C := Try.checked) own started (by kernel_rfl) Try.func12
    (ChangeSpec.witness6 (enc := enc) (C := Try.checked) false ⟨#[], #[.slice none 0 0, .slice none 0 0], []⟩ 8 (by kernel_rfl) (by kernel_rfl) (by kernel_rfl) (by kernel_rfl)) ?_
  intro W base args ds gs before hval0 hW hcnd _
  have hval : ∀ (j : Nat) t v, Try.f12.params[j]? = some t → args[j]? = some v → Value.okWide Try.prog W .any base t v := hval0
  have hW' := hW
  obtain ⟨p, q, hA0, hV, rfl, hfz, hnd⟩ := hW
  have hA : DataW.TrodAll enc Try.prog W 0 (fun _ => true) true Try.f12.params.toList args.toList ds p := hA0
  rw [Try.params12] at hA hval
  obtain ⟨v0, vs0, d0, ds0, p0, q0, hargs, rfl, rfl, h0, r0⟩ := trodAll_cons hA
  obtain ⟨v1, vs1, d1, ds1, p1, q1, rfl, rfl, rfl, h1, r1⟩ := trodAll_cons r0
  obtain ⟨rfl, rfl, rfl⟩ := trodAll_nil r1
  obtain rfl : args = #[v0, v1] := by cases args; simp_all
  obtain ⟨rfl, rfl⟩ := trodVars_none hV
  have lt0 : ∀ x ∈ p0, x.block < W.heap.size := by obtain ⟨m, hm⟩ := h0; exact DataW.trod_lt m _ _ _ hm
  obtain ⟨a0, l0, k0, rfl, w0⟩ := bytes_of Try.underlying44 Try.underlying5 (by kernel_rfl) (hval 0 44 v0 rfl rfl) h0
  have lt1 : ∀ x ∈ p1, x.block < W.heap.size := by obtain ⟨m, hm⟩ := h1; exact DataW.trod_lt m _ _ _ hm
  obtain ⟨a1, l1, k1, rfl, w1⟩ := bytes_of Try.underlying44 Try.underlying5 (by kernel_rfl) (hval 1 44 v1 rfl rfl) h1
  clear hA0 hval0
  refine (walk a0 l0 k0 a1 l1 k1 W w0 w1).mono fun e W' ⟨he, bel⟩ => ?_
  subst he
  exact ⟨_, rfl, _, _, _, [], _, [], hW', trodAll_mk1 (shut_bool Try.underlying4 _), (trodAll_cons_mk (Below.trod laidOut (by kernel_rfl) (of_decide_eq_true (by kernel_rfl)) h0 bel lt0) (trodAll_cons_mk (Below.trod laidOut (by kernel_rfl) (of_decide_eq_true (by kernel_rfl)) h1 bel lt1) trodAll_mk0)), rfl, bel.frame _, fun h => by cases h⟩

theorem over_row : Rows.fnChainTurnRow.holds Try.pinned (OpenSpec.ofChange Rows.fnChainTurnSpec) :=
  OpenClaim.holds_of_wide 12 Try.f12 rfl rfl rfl rfl rfl rfl rfl ⟨rfl, rfl, rfl, rfl, rfl⟩ rfl rfl rfl rfl rfl (by kernel_rfl) Try.func12 (by kernel_rfl)
    (of_decide_eq_true (by kernel_rfl)) (by unfold Func.isWrapper; first | (rw [if_pos (by decide +kernel)]; kernel_rfl) | (rw [if_neg (by decide +kernel)]; exact ⟨rfl, rfl⟩))
    (fun os started H enc _ => lifted os started H enc)

/-- The statement. -/
theorem proved : Rows.FnChainTurnSaid := over_row
end Go.Proofs.Ytbpdhilhohcinaa.fnChainTurn
