/- No more versions are taken than there is room for. Of every input that the given statement lets in. -/
import Derived.Test.YtbpdhilhohcinaaOpen
import Derived.Test.YtbpdhilhohcinaaDrawC2
import Derived.Test.YtbpdhilhohcinaaLiV
import Derived.Test.YtbpdhilhohcinaaPutVI
import Derived.Test.YtbpdhilhohcinaaChainR
namespace Go.Proofs.Ytbpdhilhohcinaa.fnChainFull
open Go.ChangeShapes Go.WideShapes Go.ChangeAt Go.RowKit
set_option linter.unusedVariables false
theorem gives_put {P : Program} {f : FuncId} {args : Array Value} {w : World} {l l' : List Vp} {b b' : Bool} (h : Calls P f args w (GivesVersB l b w)) (hl : l = l') (hb : b = b') : Calls P f args w (GivesVersB l' b' w) := by subst hl; subst hb; exact h
theorem few_put {A B : List Mv} {x : Vp} (h : Small A) (hl : A.length ≤ 140) (hx : x.deps.length ≤ 3) (hB : vs B = chainPutL (vs A) x) : Small B ∧ B.length ≤ A.length + 1 := small_put h hx hB
set_option maxRecDepth 100000 in
set_option maxHeartbeats 4000000 in
theorem walk (a0 : Option Addr) (l0 k0 : Nat) (w : World) (w0 : BytesIn w a0 l0 k0) :
    Calls Try.prog 11 #[.slice a0 l0 k0] w fun e w' => e = .returned (.bool true) ∧ Below w.heap.size w w' := by
  by_cases hbig : 1048576 < l0
  · have hbig' : (1048576 : Int) < (l0 : Int) := by omega
    go_enter Try.func11, Try.ntmps11
    go_wp2
    go_ret
    exact ⟨rfl, Below.refl _ _⟩
  · have hbig' : (l0 : Int) ≤ (1048576 : Int) := by omega
    go_enter Try.func11, Try.ntmps11
    go_wp2_with fail
    refine (DrawChainPut_any _ _ _ _ w0).mono ?_
    rintro e w1 ⟨l, pa, ca, m, rfl, hl1, hs1, hd1, vl1, rm1, hb1⟩
    have G0 := hb1
    have few1 := hs1.few hl1
    have BV := Blk.new w1 #[.int .i64 m.v.key, .int .i64 m.v.time, .int .i64 m.v.site, .int .i64 m.v.val, .int .i64 m.v.client, .int .i64 m.v.call, .slice m.a m.v.deps.length m.c] 54
    have hbBV := below_box w1 (.cells #[.int .i64 m.v.key, .int .i64 m.v.time, .int .i64 m.v.site, .int .i64 m.v.val, .int .i64 m.v.client, .int .i64 m.v.call, .slice m.a m.v.deps.length m.c] 54)
    have G0 := below_after G0 hbBV
    have vl1 := vl1.below hbBV
    have rm1 := rm1.below hbBV
    obtain ⟨b, hb_⟩ : ∃ b, chainPutB (vs l) m.v = b := ⟨_, rfl⟩
    have hbb : (b != b) = false := by cases b <;> rfl
    have hbe : (b == b) = true := by cases b <;> rfl
    have hB := Lib.hid hb_
    obtain ⟨BV0, BV1, BV2, BV3, BV4, BV5, BV6, BVf, BVl⟩ := BV.seven
    go_wp2_with fail
    refine (gives_put (ChainPut_spec l m.v pa m.a ca m.c _ vl1 few1 rm1 (by omega)) rfl hb_).mono ?_
    rintro e w3 ⟨v3, M3, rfl, hM3, T3, hb3⟩
    obtain ⟨p3, c3, rfl, V3⟩ := T3.open_
    have BV := BV.below hb3 BV.lt
    have G0 := below_after G0 hb3
    have vl1 := vl1.below hb3
    have rm1 := rm1.below hb3
    have hM3 := Lib.hid hM3
    clear T3
    obtain ⟨BV0, BV1, BV2, BV3, BV4, BV5, BV6, BVf, BVl⟩ := BV.seven
    go_wp2_with fail
    refine (gives_put (ChainPut_impl l m.v pa m.a ca m.c _ vl1 few1 rm1 (by omega)) rfl hb_).mono ?_
    rintro e w4 ⟨v4, M4, rfl, hM4, T4, hb4⟩
    obtain ⟨p4, c4, rfl, V4⟩ := T4.open_
    have BV := BV.below hb4 BV.lt
    have G0 := below_after G0 hb4
    have vl1 := vl1.below hb4
    have rm1 := rm1.below hb4
    have V3 := V3.below hb4
    have hM4 := Lib.hid hM4
    clear T4
    clear hb_
    obtain ⟨hs4, hl4⟩ := few_put hs1 hl1 hd1 hM4.out
    have few4 : Few M4 := ⟨by omega, fun y hy => by have := hs4 y hy; omega⟩
    obtain ⟨BV0, BV1, BV2, BV3, BV4, BV5, BV6, BVf, BVl⟩ := BV.seven
    go_wp2_with fail
    refine (liVers_same M4 M3 p4 p3 c4 c3 _ V4 V3 (by rw [hM4.out, hM3.out])).mono ?_
    rintro e w5 ⟨rfl, hb5⟩
    have BV := BV.below hb5 BV.lt
    have G0 := below_after G0 hb5
    have vl1 := vl1.below hb5
    have rm1 := rm1.below hb5
    have V3 := V3.below hb5
    have V4 := V4.below hb5
    have ls5 := hb5.size
    go_wp2_with fail
    refine (ChainOk_spec l pa ca _ vl1 few1).mono ?_
    rintro e w6 ⟨rfl, hb6⟩
    have BV := BV.below hb6 BV.lt
    have G0 := below_after G0 hb6
    have vl1 := vl1.below hb6
    have rm1 := rm1.below hb6
    have V3 := V3.below hb6
    have V4 := V4.below hb6
    have ls6 := hb6.size
    rcases hok : chainOkB (vs l) with _ | _
    · skip
      obtain ⟨BV0, BV1, BV2, BV3, BV4, BV5, BV6, BVf, BVl⟩ := BV.seven
      go_wp2_with fail
      refine (liVers_same M4 M3 p4 p3 c4 c3 _ V4 V3 (by rw [hM4.out, hM3.out])).mono ?_
      rintro e w7 ⟨rfl, hb7⟩
      have BV := BV.below hb7 BV.lt
      have G0 := below_after G0 hb7
      have vl1 := vl1.below hb7
      have rm1 := rm1.below hb7
      have V3 := V3.below hb7
      have V4 := V4.below hb7
      have ls7 := hb7.size
      go_wp2
      go_ret
      exact ⟨rfl, G0⟩
    have HG : Hid (Good (vs M4)) := by show Good _; rw [hM4.out]; exact good_putL hok m.v
    clear hok
    go_wp2
    go_loopw [7, 8, 9] (fun v ob i wr => ∃ (n : Nat) (A : List Mv) (pq : Option Addr) (cq : Nat) (kb : Bool), n ≤ 82 ∧ i = .int .i64 n ∧ v = .slice pq A.length cq ∧ ob = .bool kb ∧ Good (vs A) ∧ ((vs A).length = 80 ∨ n ≤ cntF (vs A) n) ∧ (81 ≤ n → kb = false) ∧ Small A ∧ Vers wr pq cq A ∧ Below w6.heap.size w6 wr) (fun _ _ i _ => 82 - (intOf i).toNat)
    case atStart => exact ⟨0, M4, p4, c4, b, by omega, rfl, rfl, rfl, HG.out, .inr (Nat.zero_le _), fun h => by omega, hs4, V4, Below.refl _ _⟩
    case round =>
      obtain ⟨n, A, pq, cq, kb, hn, rfl, rfl, rfl, hgA, hcA, hkb, hsA, VA, hbk⟩ := hrel
      have HGA := Lib.hid hgA
      have HCA := Lib.hid hcA
      have HKB := Lib.hid hkb
      have hlA := hgA.len
      rw [vs_len] at hlA
      have fewA := hsA.few (by omega)
      clear hgA hcA hkb
      by_cases hlt : n < 82
      · have hni : (n : Int) < 82 := by omega
        have HST := Lib.hid (full_step (n := n) HGA.out (by omega) HCA.out)
        obtain ⟨kb2, hk2⟩ : ∃ kb2, chainPutB (vs A) (verN n) = kb2 := ⟨_, rfl⟩
        have HK2 := Lib.hid hk2
        have hcall := fun W (h : Vers W pq cq A) => gives_put (ChainPut_impl A (verN n) pq none cq 0 W h fewA (reads_nilD W) (by simp [verN])) rfl hk2
        have HCALL : Hid (∀ W, Vers W pq cq A → Calls Try.prog 49 #[.slice pq A.length cq, .agg #[.int .i64 3, .int .i64 (100 + (n : Int)), .int .i64 1, .int .i64 0, .int .i64 0, .int .i64 1, .slice none 0 0]] W (GivesVersB (chainPutL (vs A) (verN n)) kb2 W)) := hcall
        clear hk2 hcall
        go_wp2_with fail
        refine (HCALL.out _ VA).mono ?_
        rintro e w9 ⟨v9, M9, rfl, hM9, T9, hb9⟩
        obtain ⟨p9, c9, rfl, V9⟩ := T9.open_
        have HM9 := Lib.hid hM9
        have hsm9 := Lib.hid (few_put (x := verN n) hsA (by omega) (by simp [verN]) hM9)
        clear hM9 T9
        go_wp2
        go_roundw
        case rel => exact ⟨n + 1, M9, p9, c9, kb2, by omega, by go_num, rfl, rfl, by rw [HM9.out]; exact HST.out.1, by rw [HM9.out]; exact HST.out.2.1, fun h => by rw [← HK2.out]; exact HST.out.2.2 (full_80 HGA.out HCA.out (by omega)), hsm9.out.1, V9, below_after hbk hb9⟩
        case measure => simp [intOf]; omega
      · obtain rfl : n = 82 := by omega
        obtain rfl : kb = false := HKB.out (by omega)
        have h80 := full_80 HGA.out HCA.out (by omega)
        rw [vs_len] at h80
        have h80' : ((A.length : Int) == 80) = true := by rw [h80]; rfl
        clear h80
        have hcok := bool_is ((good_iff (vs A)).2 HGA.out) (ChainOk_impl A pq cq wr VA fewA)
        have HCOK := Lib.hid hcok
        clear hcok
        go_wp2_with fail
        refine HCOK.out.mono ?_
        rintro e w9 ⟨rfl, hb9⟩
        go_wp2
        go_ret
        exact ⟨rfl, below_after G0 (below_after hbk hb9)⟩

set_option maxRecDepth 100000 in
theorem lifted (os : Os) (started : os.Started) (H : Type) (enc : TypeId × Value → H) :
    ReturnsInHanded {} Try.checked os 11 .any (Rows.fnChainFullSpec.pre6 enc Try.prog Try.f11 Rows.fnChainFullRow.domain false) (Rows.fnChainFullSpec.post enc Try.prog Try.f11 false true false false) := by
  refine returnsInHanded_of_change (C := Try.checked) own started (by kernel_rfl) Try.func11
    (ChangeSpec.witness6 (enc := enc) (C := Try.checked) false ⟨#[], #[.slice none 0 0], []⟩ 8 (by kernel_rfl) (by kernel_rfl) (by kernel_rfl) (by kernel_rfl)) ?_
  intro W base args ds gs before hval0 hW hcnd _
  have hval : ∀ (j : Nat) t v, Try.f11.params[j]? = some t → args[j]? = some v → Value.okWide Try.prog W .any base t v := hval0
  have hW' := hW
  obtain ⟨p, q, hA0, hV, rfl, hfz, hnd⟩ := hW
  have hA : DataW.TrodAll enc Try.prog W 0 (fun _ => true) true Try.f11.params.toList args.toList ds p := hA0
  rw [Try.params11] at hA hval
  obtain ⟨v0, vs0, d0, ds0, p0, q0, hargs, rfl, rfl, h0, r0⟩ := trodAll_cons hA
  obtain ⟨rfl, rfl, rfl⟩ := trodAll_nil r0
  obtain rfl : args = #[v0] := by cases args; simp_all
  obtain ⟨rfl, rfl⟩ := trodVars_none hV
  have lt0 : ∀ x ∈ p0, x.block < W.heap.size := by obtain ⟨m, hm⟩ := h0; exact DataW.trod_lt m _ _ _ hm
  obtain ⟨a0, l0, k0, rfl, w0⟩ := bytes_of Try.underlying44 Try.underlying5 (by kernel_rfl) (hval 0 44 v0 rfl rfl) h0
  clear hA0 hval0
  refine (walk a0 l0 k0 W w0).mono fun e W' ⟨he, bel⟩ => ?_
  subst he
  exact ⟨_, rfl, _, _, _, [], _, [], hW', trodAll_mk1 (shut_bool Try.underlying4 _), (trodAll_cons_mk (Below.trod laidOut (by kernel_rfl) (of_decide_eq_true (by kernel_rfl)) h0 bel lt0) trodAll_mk0), rfl, bel.frame _, fun h => by cases h⟩

theorem over_row : Rows.fnChainFullRow.holds Try.pinned (OpenSpec.ofChange Rows.fnChainFullSpec) :=
  OpenClaim.holds_of_wide 11 Try.f11 rfl rfl rfl rfl rfl rfl rfl ⟨rfl, rfl, rfl, rfl, rfl⟩ rfl rfl rfl rfl rfl (by kernel_rfl) Try.func11 (by kernel_rfl)
    (of_decide_eq_true (by kernel_rfl)) (by unfold Func.isWrapper; first | (rw [if_pos (by decide +kernel)]; kernel_rfl) | (rw [if_neg (by decide +kernel)]; exact ⟨rfl, rfl⟩))
    (fun os started H enc _ => lifted os started H enc)

/-- The statement. -/
theorem proved : Rows.FnChainFullSaid := over_row
end Go.Proofs.Ytbpdhilhohcinaa.fnChainFull
