/- A version that is put is there, and all others stay. Of every input that the given statement lets in. -/
import Derived.Test.YtbpdhilhohcinaaOpen
import Derived.Test.YtbpdhilhohcinaaDrawC2
import Derived.Test.YtbpdhilhohcinaaLiH
import Derived.Test.YtbpdhilhohcinaaPutVI
namespace Go.Proofs.Ytbpdhilhohcinaa.fnChainPut
open Go.ChangeShapes Go.WideShapes Go.ChangeAt Go.RowKit
set_option linter.unusedVariables false
theorem gives_put {P : Program} {f : FuncId} {args : Array Value} {w : World} {l l' : List Vp} {b b' : Bool} (h : Calls P f args w (GivesVersB l b w)) (hl : l = l') (hb : b = b') : Calls P f args w (GivesVersB l' b' w) := by subst hl; subst hb; exact h
theorem few_put {A B : List Mv} {x : Vp} (h : Small A) (hl : A.length ≤ 140) (hx : x.deps.length ≤ 3) (hB : vs B = chainPutL (vs A) x) : Small B ∧ B.length ≤ A.length + 1 := small_put h hx hB
theorem allIn_of {l s : List Mv} (hs : Sorted (vs l)) (h : ∀ k (hk : k < s.length), s[k].v ∈ vs l) : AllIn l s := fun k hk => by
  have h1 := getV_mem hs (h k hk)
  rw [← getM_v] at h1
  obtain ⟨g, hg, hv⟩ := Option.map_eq_some_iff.1 h1
  exact ⟨g, hg, hv⟩
theorem vers_one {w : World} (m : Mv) (h : Reads w m.a m.v.deps.length m.c (dpsC m.v.deps)) : Vers (w.alloc (.cells #[.int .i64 m.v.key, .int .i64 m.v.time, .int .i64 m.v.site, .int .i64 m.v.val, .int .i64 m.v.client, .int .i64 m.v.call, .slice m.a m.v.deps.length m.c] 54)) (some ⟨w.heap.size, 0, none⟩) 1 [m] := by
  have hB := Blk.new w #[.int .i64 m.v.key, .int .i64 m.v.time, .int .i64 m.v.site, .int .i64 m.v.val, .int .i64 m.v.client, .int .i64 m.v.call, .slice m.a m.v.deps.length m.c] 54
  refine ⟨⟨Nat.le_refl _, by unfold maxLen; simp, fun _ => ⟨w.heap.size, 0, rfl, hB.lt, fun j u hj => ?_⟩⟩, fun y hy => ?_⟩
  · rw [Nat.zero_add]
    exact hB.cell j (by simpa [mvsC, mvC] using hj)
  · simp only [List.mem_singleton] at hy; subst hy; exact h.alloc _
set_option maxRecDepth 100000 in
set_option maxHeartbeats 4000000 in
theorem walk (a0 : Option Addr) (l0 k0 : Nat) (w : World) (w0 : BytesIn w a0 l0 k0) :
    Calls Try.prog 13 #[.slice a0 l0 k0] w fun e w' => e = .returned (.bool true) ∧ Below w.heap.size w w' := by
  by_cases hbig : 1048576 < l0
  · have hbig' : (1048576 : Int) < (l0 : Int) := by omega
    go_enter Try.func13, Try.ntmps13
    go_wp2
    go_ret
    exact ⟨rfl, Below.refl _ _⟩
  · have hbig' : (l0 : Int) ≤ (1048576 : Int) := by omega
    go_enter Try.func13, Try.ntmps13
    go_wp2_with fail
    refine (DrawChainPut_any _ _ _ _ w0).mono ?_
    rintro e w1 ⟨l, pa, ca, m, rfl, hl1, hs1, hd1, vl1, rm1, hb1⟩
    have G0 := hb1
    have few1 := hs1.few hl1
    have BV := Blk.new w1 #[.int .i64 m.v.key, .int .i64 m.v.time, .int .i64 m.v.site, .int .i64 m.v.val, .int .i64 m.v.client, .int .i64 m.v.call, .slice m.a m.v.deps.length m.c] 54
    have hbBV := below_box w1 (.cells #[.int .i64 m.v.key, .int .i64 m.v.time, .int .i64 m.v.site, .int .i64 m.v.val, .int .i64 m.v.client, .int .i64 m.v.call, .slice m.a m.v.deps.length m.c] 54)
    have G0 := below_after G0 hbBV
    have vl1 := vl1.below hbBV
    have rm1 := rm1.below hbBV
    obtain ⟨b, hb_⟩ : ∃ b, chainPutB (vs l) m.v = b := ⟨_, rfl⟩
    obtain ⟨ok, hok⟩ : ∃ ok, chainOkB (vs l) = ok := ⟨_, rfl⟩
    have hbb : (b != b) = false := by cases b <;> rfl
    have hoo : (ok != ok) = false := by cases ok <;> rfl
    have hB := Lib.hid hb_
    have hK := Lib.hid hok
    have HLV := Lib.hid (vs_len l)
    obtain ⟨BV0, BV1, BV2, BV3, BV4, BV5, BV6, BVf, BVl⟩ := BV.seven
    go_wp2_with fail
    refine (gives_put (ChainPut_spec l m.v pa m.a ca m.c _ vl1 few1 rm1 (by omega)) rfl hb_).mono ?_
    rintro e w3 ⟨v3, M3, rfl, hM3, T3, hb3⟩
    obtain ⟨p3, c3, rfl, V3⟩ := T3.open_
    have BV := BV.below hb3 BV.lt
    have G0 := below_after G0 hb3
    have vl1 := vl1.below hb3
    have rm1 := rm1.below hb3
    have hM3 := Lib.hid hM3
    clear T3
    obtain ⟨BV0, BV1, BV2, BV3, BV4, BV5, BV6, BVf, BVl⟩ := BV.seven
    go_wp2_with fail
    refine (bool_is hok (ChainOk_spec l pa ca _ vl1 few1)).mono ?_
    rintro e w4 ⟨rfl, hb4⟩
    have BV := BV.below hb4 BV.lt
    have G0 := below_after G0 hb4
    have vl1 := vl1.below hb4
    have rm1 := rm1.below hb4
    have V3 := V3.below hb4
    have ls4 := hb4.size
    obtain ⟨BV0, BV1, BV2, BV3, BV4, BV5, BV6, BVf, BVl⟩ := BV.seven
    go_wp2_with fail
    refine (gives_put (ChainPut_impl l m.v pa m.a ca m.c _ vl1 few1 rm1 (by omega)) rfl hb_).mono ?_
    rintro e w5 ⟨v5, M5, rfl, hM5, T5, hb5⟩
    obtain ⟨p5, c5, rfl, V5⟩ := T5.open_
    have BV := BV.below hb5 BV.lt
    have G0 := below_after G0 hb5
    have vl1 := vl1.below hb5
    have rm1 := rm1.below hb5
    have V3 := V3.below hb5
    have hM5 := Lib.hid hM5
    clear T5
    clear hb_
    obtain ⟨hs5, hl5⟩ := few_put hs1 hl1 hd1 hM5.out
    have few5 : Few M5 := ⟨by omega, fun y hy => by have := hs5 y hy; omega⟩
    obtain ⟨BV0, BV1, BV2, BV3, BV4, BV5, BV6, BVf, BVl⟩ := BV.seven
    go_wp2_with fail
    refine (liVers_same M5 M3 p5 p3 c5 c3 _ V5 V3 (by rw [hM5.out, hM3.out])).mono ?_
    rintro e w6 ⟨rfl, hb6⟩
    have BV := BV.below hb6 BV.lt
    have G0 := below_after G0 hb6
    have vl1 := vl1.below hb6
    have rm1 := rm1.below hb6
    have V3 := V3.below hb6
    have V5 := V5.below hb6
    have ls6 := hb6.size
    obtain ⟨BV0, BV1, BV2, BV3, BV4, BV5, BV6, BVf, BVl⟩ := BV.seven
    go_wp2_with fail
    refine (bool_is hok (ChainOk_impl l pa ca _ vl1 few1)).mono ?_
    rintro e w7 ⟨rfl, hb7⟩
    have BV := BV.below hb7 BV.lt
    have G0 := below_after G0 hb7
    have vl1 := vl1.below hb7
    have rm1 := rm1.below hb7
    have V3 := V3.below hb7
    have V5 := V5.below hb7
    have ls7 := hb7.size
    clear hok
    cases ok with
    | false =>
      have hpb := put_bad (v := m.v) hK.out
      have hbf : b = false := by rw [← hB.out]; exact hpb.1
      have hM50 : M5.length = 0 := by rw [← vs_len M5, hM5.out, hpb.2]; rfl
      have hM50' : ((M5.length : Int) == 0) = true := by rw [hM50]; rfl
      clear hpb hM50
      subst hbf
      obtain ⟨BV0, BV1, BV2, BV3, BV4, BV5, BV6, BVf, BVl⟩ := BV.seven
      go_wp2
      go_ret
      exact ⟨rfl, G0⟩
    | true =>
      cases b with
      | false =>
        have HE : Hid (vs M5 = vs l) := by show _ = _; rw [hM5.out, putL_no hK.out hB.out]
        obtain ⟨BV0, BV1, BV2, BV3, BV4, BV5, BV6, BVf, BVl⟩ := BV.seven
        go_wp2_with fail
        refine (liVers_same M5 l p5 pa c5 ca _ V5 vl1 (by rw [HE.out])).mono ?_
        rintro e w8 ⟨rfl, hb8⟩
        have BV := BV.below hb8 BV.lt
        have G0 := below_after G0 hb8
        have vl1 := vl1.below hb8
        have rm1 := rm1.below hb8
        have V3 := V3.below hb8
        have V5 := V5.below hb8
        have ls8 := hb8.size
        go_wp2
        go_ret
        exact ⟨rfl, G0⟩
      | true =>
        have HE : Hid (vs M5 = putV (vs l) m.v) := by show _ = _; rw [hM5.out, putL_yes hB.out]
        have HGD : Hid (Good (vs M5)) := by show Good _; rw [HE.out]; exact good_put hB.out
        have HAG : Hid (chainPutB (vs M5) m.v = false) := by show _ = _; rw [HE.out]; exact put_again hB.out
        have hln : M5.length = l.length + 1 := by rw [← vs_len M5, HE.out, putV_len, HLV.out]
        have hln' : ((M5.length : Int) == (l.length : Int) + 1) = true := by rw [hln]; simp
        clear hln
        have HIN1 : Hid (AllIn M5 l) := allIn_of HGD.out.srt fun k h => by rw [HE.out]; exact (mem_putV _ _ _).2 (.inr (List.mem_map_of_mem (List.getElem_mem h)))
        have HIN2 : Hid (AllIn M5 [m]) := allIn_of HGD.out.srt fun k h => by
          have hk0 : k = 0 := by simp at h; exact h
          subst hk0
          rw [HE.out]; exact (mem_putV _ _ _).2 (.inl rfl)
        obtain ⟨BV0, BV1, BV2, BV3, BV4, BV5, BV6, BVf, BVl⟩ := BV.seven
        go_wp2_with fail
        refine (gives_put (ChainPut_impl M5 m.v p5 m.a c5 m.c _ V5 few5 rm1 (by omega)) rfl HAG.out).mono ?_
        rintro e w8 ⟨v8, M8, rfl, hM8, T8, hb8⟩
        obtain ⟨p8, c8, rfl, V8⟩ := T8.open_
        have BV := BV.below hb8 BV.lt
        have G0 := below_after G0 hb8
        have vl1 := vl1.below hb8
        have rm1 := rm1.below hb8
        have V3 := V3.below hb8
        have V5 := V5.below hb8
        have hM8 := Lib.hid hM8
        clear T8
        obtain ⟨BV0, BV1, BV2, BV3, BV4, BV5, BV6, BVf, BVl⟩ := BV.seven
        go_wp2_with fail
        refine (bool_is ((good_iff _).2 HGD.out) (ChainOk_impl M5 p5 c5 _ V5 few5)).mono ?_
        rintro e w9 ⟨rfl, hb9⟩
        have BV := BV.below hb9 BV.lt
        have G0 := below_after G0 hb9
        have vl1 := vl1.below hb9
        have rm1 := rm1.below hb9
        have V3 := V3.below hb9
        have V5 := V5.below hb9
        have V8 := V8.below hb9
        have ls9 := hb9.size
        obtain ⟨BV0, BV1, BV2, BV3, BV4, BV5, BV6, BVf, BVl⟩ := BV.seven
        go_wp2_with fail
        refine (liHas_all M5 l p5 pa c5 ca _ V5 vl1 (by omega) HIN1.out).mono ?_
        rintro e w10 ⟨rfl, hb10⟩
        have BV := BV.below hb10 BV.lt
        have G0 := below_after G0 hb10
        have vl1 := vl1.below hb10
        have rm1 := rm1.below hb10
        have V3 := V3.below hb10
        have V5 := V5.below hb10
        have V8 := V8.below hb10
        have ls10 := hb10.size
        obtain ⟨BV0, BV1, BV2, BV3, BV4, BV5, BV6, BVf, BVl⟩ := BV.seven
        go_wp2_with fail
        have vone := vers_one m rm1
        have hbx := below_box w10 (.cells #[.int .i64 m.v.key, .int .i64 m.v.time, .int .i64 m.v.site, .int .i64 m.v.val, .int .i64 m.v.client, .int .i64 m.v.call, .slice m.a m.v.deps.length m.c] 54)
        have V5y := V5.below hbx
        have G0 := below_after G0 hbx
        have BV := BV.below hbx BV.lt
        refine (liHas_all M5 [m] p5 (some ⟨w10.heap.size, 0, none⟩) c5 1 _ V5y vone (by omega) HIN2.out).mono ?_
        rintro e w11 ⟨rfl, hb11⟩
        have G0 := below_after G0 hb11
        go_wp2
        go_ret
        exact ⟨rfl, G0⟩

set_option maxRecDepth 100000 in
theorem lifted (os : Os) (started : os.Started) (H : Type) (enc : TypeId × Value → H) :
    ReturnsInHanded {} Try.checked os 13 .any (Rows.fnChainPutSpec.pre6 enc Try.prog Try.f13 Rows.fnChainPutRow.domain false) (Rows.fnChainPutSpec.post enc Try.prog Try.f13 false true false false) := by
  refine returnsInHanded_of_change (C := Try.checked) own started (by kernel_rfl) Try.func13
    (ChangeSpec.witness6 (enc := enc) (C := Try.checked) false ⟨#[], #[.slice none 0 0], []⟩ 8 (by kernel_rfl) (by kernel_rfl) (by kernel_rfl) (by kernel_rfl)) ?_
  intro W base args ds gs before hval0 hW hcnd _
  have hval : ∀ (j : Nat) t v, Try.f13.params[j]? = some t → args[j]? = some v → Value.okWide Try.prog W .any base t v := hval0
  have hW' := hW
  obtain ⟨p, q, hA0, hV, rfl, hfz, hnd⟩ := hW
  have hA : DataW.TrodAll enc Try.prog W 0 (fun _ => true) true Try.f13.params.toList args.toList ds p := hA0
  rw [Try.params13] at hA hval
  obtain ⟨v0, vs0, d0, ds0, p0, q0, hargs, rfl, rfl, h0, r0⟩ := trodAll_cons hA
  obtain ⟨rfl, rfl, rfl⟩ := trodAll_nil r0
  obtain rfl : args = #[v0] := by cases args; simp_all
  obtain ⟨rfl, rfl⟩ := trodVars_none hV
  have lt0 : ∀ x ∈ p0, x.block < W.heap.size := by obtain ⟨m, hm⟩ := h0; exact DataW.trod_lt m _ _ _ hm
  obtain ⟨a0, l0, k0, rfl, w0⟩ := bytes_of Try.underlying44 Try.underlying5 (by kernel_rfl) (hval 0 44 v0 rfl rfl) h0
  clear hA0 hval0
  refine (walk a0 l0 k0 W w0).mono fun e W' ⟨he, bel⟩ => ?_
  subst he
  exact ⟨_, rfl, _, _, _, [], _, [], hW', trodAll_mk1 (shut_bool Try.underlying4 _), (trodAll_cons_mk (Below.trod laidOut (by kernel_rfl) (of_decide_eq_true (by kernel_rfl)) h0 bel lt0) trodAll_mk0), rfl, bel.frame _, fun h => by cases h⟩

theorem over_row : Rows.fnChainPutRow.holds Try.pinned (OpenSpec.ofChange Rows.fnChainPutSpec) :=
  OpenClaim.holds_of_wide 13 Try.f13 rfl rfl rfl rfl rfl rfl rfl ⟨rfl, rfl, rfl, rfl, rfl⟩ rfl rfl rfl rfl rfl (by kernel_rfl) Try.func13 (by kernel_rfl)
    (of_decide_eq_true (by kernel_rfl)) (by unfold Func.isWrapper; first | (rw [if_pos (by decide +kernel)]; kernel_rfl) | (rw [if_neg (by decide +kernel)]; exact ⟨rfl, rfl⟩))
    (fun os started H enc _ => lifted os started H enc)

/-- The statement. -/
theorem proved : Rows.FnChainPutSaid := over_row
end Go.Proofs.Ytbpdhilhohcinaa.fnChainPut
