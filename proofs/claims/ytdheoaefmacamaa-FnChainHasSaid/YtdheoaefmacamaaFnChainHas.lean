/- Dependencies are there just if each of them is. Of every input that the given statement lets in. -/
import Derived.Test.YtdheoaefmacamaaOpen
import Derived.Test.YtdheoaefmacamaaDrawC2
import Derived.Test.YtdheoaefmacamaaDrawH
import Derived.Test.YtdheoaefmacamaaChainW4
import Derived.Test.YtdheoaefmacamaaPutVI
import Derived.Test.YtdheoaefmacamaaPutV2
import Derived.Deep.RegionHeld3
namespace Go.Proofs.Ytdheoaefmacamaa.fnChainHas
open Go.ChangeShapes Go.WideShapes Go.ChangeAt Go.RowKit
set_option linter.unusedVariables false
theorem gives_put {P : Program} {f : FuncId} {args : Array Value} {w : World} {l l' : List Vp} {b b' : Bool} (h : Calls P f args w (GivesVersB l b w)) (hl : l = l') (hb : b = b') : Calls P f args w (GivesVersB l' b' w) := by subst hl; subst hb; exact h
theorem few_put {A B : List Mv} {x : Vp} (h : Small A) (hl : A.length ≤ 140) (hx : x.deps.length ≤ 3) (hB : vs B = chainPutL (vs A) x) : Small B ∧ B.length ≤ A.length + 1 := small_put h hx hB
theorem chainHas_put {l : List Vp} {v : Vp} {ds : List Dp} (h : chainPutB l v = true) (hh : chainHasB l ds = true) : chainHasB (putV l v) ds = true := by
  unfold chainHasB at hh ⊢
  simp only [Bool.and_eq_true] at hh ⊢
  obtain ⟨h1, h2, h3⟩ := hh
  refine ⟨(good_iff _).2 (good_put h), h2, ?_⟩
  unfold hasAllB at h3 ⊢
  rw [List.all_eq_true] at h3 ⊢
  intro q hq
  obtain ⟨x, hx, e⟩ := (hasV_iff l q).1 (h3 q hq)
  exact (hasV_iff _ q).2 ⟨x, (mem_putV l v x).2 (.inr hx), e⟩
theorem chainHas_eq {l : List Vp} {ds : List Dp} (h1 : chainOkB l = true) (h2 : depsOkB ds = true) : chainHasB l ds = hasAllB l ds := by unfold chainHasB; rw [h1, h2]; rfl
set_option maxRecDepth 100000 in
set_option maxHeartbeats 8000000 in
theorem walk (a0 : Option Addr) (l0 k0 : Nat) (a1 : Option Addr) (l1 k1 : Nat) (w : World) (w0 : BytesIn w a0 l0 k0) (w1 : BytesIn w a1 l1 k1) :
    Calls Try.prog 4 #[.slice a0 l0 k0, .slice a1 l1 k1] w fun e w' => e = .returned (.bool true) ∧ Below w.heap.size w w' := by
  by_cases hbig : 1048576 < l0
  · have hbig' : (1048576 : Int) < (l0 : Int) := by omega
    go_enter Try.func4, Try.ntmps4
    go_wp2
    go_ret
    exact ⟨rfl, Below.refl _ _⟩
  · have hbig' : (l0 : Int) ≤ (1048576 : Int) := by omega
    by_cases hbih : 1048576 < l1
    · have hbih' : (1048576 : Int) < (l1 : Int) := by omega
      go_enter Try.func4, Try.ntmps4
      go_wp2
      go_ret
      exact ⟨rfl, Below.refl _ _⟩
    · have hbih' : (l1 : Int) ≤ (1048576 : Int) := by omega
      have w1_ := w1
      clear w1
      go_enter Try.func4, Try.ntmps4
      go_wp2_with fail
      refine (DrawChainHas_any _ _ _ _ w0).mono ?_
      rintro e w1 ⟨l, pa, ca, ds, pd, cd, rfl, hl1, hs1, hd1, vl, rd, hb1⟩
      have G0 := hb1
      have few1 := hs1.few hl1
      have hl0 := hl1
      have hd0 := hd1
      go_wp2_with fail
      refine (DrawChainPut_any _ _ _ _ (w1_.below G0)).mono ?_
      rintro e w2 ⟨l', pb, cb, m, rfl, hl2, hs2, hd2, vl2, rm2, hb2⟩
      have G0 := below_after G0 hb2
      have vl := vl.below hb2
      have rd := rd.below hb2
      have few2 := hs2.few hl2
      have BM := Blk.new w2 #[.int .i64 m.v.key, .int .i64 m.v.time, .int .i64 m.v.site, .int .i64 m.v.val, .int .i64 m.v.client, .int .i64 m.v.call, .slice m.a m.v.deps.length m.c] 35
      have hbBM := below_box w2 (.cells #[.int .i64 m.v.key, .int .i64 m.v.time, .int .i64 m.v.site, .int .i64 m.v.val, .int .i64 m.v.client, .int .i64 m.v.call, .slice m.a m.v.deps.length m.c] 35)
      have G0 := below_after G0 hbBM
      have vl := vl.below hbBM
      have rd := rd.below hbBM
      have vl2 := vl2.below hbBM
      have rm2 := rm2.below hbBM
      obtain ⟨b, hb_⟩ : ∃ b, chainHasB (vs l) ds = b := ⟨_, rfl⟩
      have hbb : (b != b) = false := by cases b <;> rfl
      have hbe : (b == b) = true := by cases b <;> rfl
      have HB := Lib.hid hb_
      clear hb_
      obtain ⟨BM0, BM1, BM2, BM3, BM4, BM5, BM6, BMf, BMl⟩ := BM.seven
      go_wp2_with fail
      refine (bool_is HB.out (ChainHas_impl l pa ca ds pd cd _ vl few1 rd (by omega))).mono ?_
      rintro e w3 ⟨rfl, hb3⟩
      have BM := BM.below hb3 BM.lt
      have G0 := below_after G0 hb3
      have vl := vl.below hb3
      have rd := rd.below hb3
      have vl2 := vl2.below hb3
      have rm2 := rm2.below hb3
      have ls3 := hb3.size
      obtain ⟨BM0, BM1, BM2, BM3, BM4, BM5, BM6, BMf, BMl⟩ := BM.seven
      go_wp2_with fail
      refine (bool_is HB.out (ChainHas_spec l pa ca ds pd cd _ vl few1 rd (by omega))).mono ?_
      rintro e w4 ⟨rfl, hb4⟩
      have BM := BM.below hb4 BM.lt
      have G0 := below_after G0 hb4
      have vl := vl.below hb4
      have rd := rd.below hb4
      have vl2 := vl2.below hb4
      have rm2 := rm2.below hb4
      have ls4 := hb4.size
      obtain ⟨BM0, BM1, BM2, BM3, BM4, BM5, BM6, BMf, BMl⟩ := BM.seven
      go_wp2_with fail
      refine (ChainOk_spec l pa ca _ vl few1).mono ?_
      rintro e w5 ⟨rfl, hb5⟩
      have BM := BM.below hb5 BM.lt
      have G0 := below_after G0 hb5
      have vl := vl.below hb5
      have rd := rd.below hb5
      have vl2 := vl2.below hb5
      have rm2 := rm2.below hb5
      have ls5 := hb5.size
      rcases hok : chainOkB (vs l) with _ | _
      · skip
        obtain ⟨BM0, BM1, BM2, BM3, BM4, BM5, BM6, BMf, BMl⟩ := BM.seven
        go_wp2_with fail
        refine (bool_is HB.out (ChainHas_spec l pa ca ds pd cd _ vl few1 rd (by omega))).mono ?_
        rintro e w6 ⟨rfl, hb6⟩
        have BM := BM.below hb6 BM.lt
        have G0 := below_after G0 hb6
        have vl := vl.below hb6
        have rd := rd.below hb6
        have vl2 := vl2.below hb6
        have rm2 := rm2.below hb6
        have ls6 := hb6.size
        go_wp2
        go_ret
        exact ⟨rfl, G0⟩
      obtain ⟨BM0, BM1, BM2, BM3, BM4, BM5, BM6, BMf, BMl⟩ := BM.seven
      go_wp2_with fail
      refine (depsOk_spec ds pd cd _ rd (by omega)).mono ?_
      rintro e w6 ⟨rfl, hb6⟩
      have BM := BM.below hb6 BM.lt
      have G0 := below_after G0 hb6
      have vl := vl.below hb6
      have rd := rd.below hb6
      have vl2 := vl2.below hb6
      have rm2 := rm2.below hb6
      have ls6 := hb6.size
      rcases hdk : depsOkB ds with _ | _
      · skip
        obtain ⟨BM0, BM1, BM2, BM3, BM4, BM5, BM6, BMf, BMl⟩ := BM.seven
        go_wp2_with fail
        refine (bool_is HB.out (ChainHas_spec l pa ca ds pd cd _ vl few1 rd (by omega))).mono ?_
        rintro e w7 ⟨rfl, hb7⟩
        have BM := BM.below hb7 BM.lt
        have G0 := below_after G0 hb7
        have vl := vl.below hb7
        have rd := rd.below hb7
        have vl2 := vl2.below hb7
        have rm2 := rm2.below hb7
        have ls7 := hb7.size
        go_wp2
        go_ret
        exact ⟨rfl, G0⟩
      have HK := Lib.hid hok
      have HQ := Lib.hid (chainHas_eq hok hdk)
      clear hok hdk
      go_wp2
      go_loopw [10, 11, 12, 13] (fun an i _ _ wr => ∃ k : Nat, k ≤ ds.length ∧ i = .int .i64 k ∧ an = .bool (hasAllB (vs l) (ds.take k)) ∧ Below w6.heap.size w6 wr) (fun _ i _ _ _ => ds.length - (intOf i).toNat)
      case atStart => exact ⟨0, Nat.zero_le _, rfl, rfl, Below.refl _ _⟩
      case round =>
        obtain ⟨k, hk, rfl, rfl, hbk⟩ := hrel
        have HT : Hid (∀ h : k < ds.length, hasAllB (vs l) (ds.take (k + 1)) = (hasAllB (vs l) (ds.take k) && hasV (vs l) ds[k])) := fun h => hasAllB_take _ _ k h
        obtain ⟨x, hx⟩ : ∃ x, hasAllB (vs l) (ds.take k) = x := ⟨_, rfl⟩
        rw [hx]
        have HX := Lib.hid hx
        clear hx
        have BM := BM.below hbk BM.lt
        have G0 := below_after G0 hbk
        have vl := vl.below hbk
        have rd := rd.below hbk
        have vl2 := vl2.below hbk
        have rm2 := rm2.below hbk
        obtain ⟨BM0, BM1, BM2, BM3, BM4, BM5, BM6, BMf, BMl⟩ := BM.seven
        by_cases hlt : k < ds.length
        · skip
          have hBd : Below wr.heap.size wr wr.drew := (Below.refl _ _).drew
          have hBz : Below wr.heap.size wr (wr.alloc (.cells #[.int .i64 0, .int .i64 0, .int .i64 0, .int .i64 0, .int .i64 0, .int .i64 0, .slice none 0 0] 35)).drew := (below_box wr (.cells #[.int .i64 0, .int .i64 0, .int .i64 0, .int .i64 0, .int .i64 0, .int .i64 0, .slice none 0 0] 35)).drew
          have hwz := hbk.size
          have hi0 : (0 : Int) ≤ (k : Int) := by omega
          have hi1 : (k : Int) < (ds.length : Int) := by omega
          obtain ⟨V, hV⟩ : ∃ V, (atV (vs l) ds[k]).getD zeroV = V := ⟨_, rfl⟩
          obtain ⟨o, ho⟩ : ∃ o, (atV (vs l) ds[k]).isSome = o := ⟨_, rfl⟩
          have HO : Hid (hasV (vs l) ds[k] = o) := by show _ = _; rw [← ho, atV_ok HK.out, hasV_get]
          have HG : Hid (∀ W, Vers W pa ca l → Calls Try.prog 18 #[.slice pa l.length ca, .int .i64 ds[k].1, .agg #[.int .i64 ds[k].2.1, .int .i64 ds[k].2.2]] W (GivesVB V o W)) := fun W hW => gives_as (ChainAt_impl l ds[k] _ ca W hW few1) ⟨hV, ho⟩
          clear hV ho
          obtain ⟨_, _, h3⟩ := rd
          obtain ⟨b4, off, rfl, hbl, hcell⟩ := h3 (dpsC_ne (by omega))
          obtain ⟨g0, g1, g2⟩ := dpsC_get ds k hlt
          have c0 : wr.drew.cell? ⟨b4, off + k * 3, none⟩ = some (.int .i64 ds[k].1) := hcell _ _ g0
          have c1 : wr.drew.cell? ⟨b4, off + k * 3 + 1, none⟩ = some (.int .i64 ds[k].2.1) := by rw [Nat.add_assoc]; exact hcell _ _ g1
          have c2 : wr.drew.cell? ⟨b4, off + k * 3 + 2, none⟩ = some (.int .i64 ds[k].2.2) := by rw [Nat.add_assoc]; exact hcell _ _ g2
          have k0 : wr.cell? ⟨b4, off + k * 3, none⟩ = some (.int .i64 ds[k].1) := c0
          have k1 : wr.cell? ⟨b4, off + k * 3 + 1, none⟩ = some (.int .i64 ds[k].2.1) := c1
          have k2 : wr.cell? ⟨b4, off + k * 3 + 2, none⟩ = some (.int .i64 ds[k].2.2) := c2
          have hne1 : ¬ wr.heap.size = b4 := by omega
          have hne2 : ¬ b4 = wr.heap.size := by omega
          clear hcell h3 g0 g1 g2
          go_wp2_with fail
          go_region_with (first | (go_at_call 18; (with_reducible refine (HG.out wr.drew (vl.below hBd)).mono ?_); rintro e w3 ⟨p3, c3, rfl, own3, hb⟩; have hr4 := below_after hBd hb; have hw34 := hb.size; clear c0 c1 c2) | (go_at_call 18; (with_reducible refine (HG.out (wr.alloc (.cells #[.int .i64 0, .int .i64 0, .int .i64 0, .int .i64 0, .int .i64 0, .int .i64 0, .slice none 0 0] 35)).drew (vl.below hBz)).mono ?_); rintro e w3 ⟨p3, c3, rfl, own3, hb⟩; have BZ := (Blk.drew (Blk.new wr #[.int .i64 0, .int .i64 0, .int .i64 0, .int .i64 0, .int .i64 0, .int .i64 0, .slice none 0 0] 35)).below hb (Blk.drew (Blk.new wr #[.int .i64 0, .int .i64 0, .int .i64 0, .int .i64 0, .int .i64 0, .int .i64 0, .slice none 0 0] 35)).lt; obtain ⟨z0, z1, z2, z3, z4, z5, z6, zf, zl⟩ := BZ.seven; have hr4 := below_after hBz hb; have hw34 := hb.size; clear c0 c1 c2))
          all_goals (
            first
            | (have BZ := BZ
               have hne := BZ.lt
               have hb5 := ((((((((Below.refl wr.heap.size w3).setCell (p := ⟨wr.heap.size, 0, none⟩) (Nat.le_refl _) (.int .i64 V.key)).setCell (p := ⟨wr.heap.size, 1, none⟩) (Nat.le_refl _) (.int .i64 V.time)).setCell (p := ⟨wr.heap.size, 2, none⟩) (Nat.le_refl _) (.int .i64 V.site)).setCell (p := ⟨wr.heap.size, 3, none⟩) (Nat.le_refl _) (.int .i64 V.val)).setCell (p := ⟨wr.heap.size, 4, none⟩) (Nat.le_refl _) (.int .i64 V.client)).setCell (p := ⟨wr.heap.size, 5, none⟩) (Nat.le_refl _) (.int .i64 V.call)).setCell (p := ⟨wr.heap.size, 6, none⟩) (Nat.le_refl _) (.slice p3 V.deps.length c3)))
            | (have hb5 := (below_box w3 (.cells #[.int .i64 V.key, .int .i64 V.time, .int .i64 V.site, .int .i64 V.val, .int .i64 V.client, .int .i64 V.call, .slice p3 V.deps.length c3] 35)).mono (show wr.heap.size ≤ w3.heap.size by first | exact hw34 | omega))
            have hbk5 := below_after hbk (hr4.trans hb5)
            have HBK5 := Lib.hid hbk5
            clear hb5 hr4 own3 hbk5
            cases x with
            | false =>
              go_wp2
              (try go_simp)
              (try go_wp2)
              go_roundw
              case rel => exact ⟨k + 1, by omega, by go_num, by rw [HT.out hlt, HX.out]; rfl, HBK5.out⟩
              case measure => simp [intOf]; omega
            | true =>
              go_wp2
              (try go_simp)
              (try go_wp2)
              go_roundw
              case rel => exact ⟨k + 1, by omega, by go_num, by rw [HT.out hlt, HX.out, HO.out]; rfl, HBK5.out⟩
              case measure => simp [intOf]; omega)
        · skip
          obtain rfl : k = ds.length := by omega
          have hxb : x = b := by rw [← HX.out, List.take_length, ← HB.out, HQ.out]
          subst hxb
          clear HT
          obtain ⟨d, hd_⟩ : ∃ d, chainPutB (vs l) m.v = d := ⟨_, rfl⟩
          have HD := Lib.hid hd_
          obtain ⟨BM0, BM1, BM2, BM3, BM4, BM5, BM6, BMf, BMl⟩ := BM.seven
          go_wp2_with fail
          refine (gives_put (ChainPut_impl l m.v pa m.a ca m.c _ vl few1 rm2 (by omega)) rfl hd_).mono ?_
          rintro e w7 ⟨v7, M7, rfl, hM7, T7, hb7⟩
          obtain ⟨p7, c7, rfl, V7⟩ := T7.open_
          have BM := BM.below hb7 BM.lt
          have G0 := below_after G0 hb7
          have vl := vl.below hb7
          have rd := rd.below hb7
          have vl2 := vl2.below hb7
          have rm2 := rm2.below hb7
          have hM7 := Lib.hid hM7
          clear T7
          clear hd_
          obtain ⟨hs7, hl7⟩ := few_put hs1 hl1 hd2 hM7.out
          have few7 : Few M7 := ⟨by omega, fun y hy => by have := hs7 y hy; omega⟩
          cases d with
          | false =>
            go_wp2
            go_ret
            exact ⟨rfl, G0⟩
          | true =>
            cases x with
            | false =>
              go_wp2
              go_ret
              exact ⟨rfl, G0⟩
            | true =>
              have HE : Hid (chainHasB (vs M7) ds = true) := by show _ = _; rw [hM7.out, putL_yes HD.out]; exact chainHas_put HD.out HB.out
              obtain ⟨BM0, BM1, BM2, BM3, BM4, BM5, BM6, BMf, BMl⟩ := BM.seven
              go_wp2_with fail
              refine (bool_is HE.out (ChainHas_impl M7 p7 c7 ds pd cd _ V7 few7 rd (by omega))).mono ?_
              rintro e w8 ⟨rfl, hb8⟩
              have BM := BM.below hb8 BM.lt
              have G0 := below_after G0 hb8
              have vl := vl.below hb8
              have rd := rd.below hb8
              have vl2 := vl2.below hb8
              have rm2 := rm2.below hb8
              have V7 := V7.below hb8
              have ls8 := hb8.size
              go_wp2
              go_ret
              exact ⟨rfl, G0⟩

set_option maxRecDepth 100000 in
theorem lifted (os : Os) (started : os.Started) (H : Type) (enc : TypeId × Value → H) :
    ReturnsInHanded {} Try.checked os 4 .any (Rows.fnChainHasSpec.pre6 enc Try.prog Try.f4 Rows.fnChainHasRow.domain false) (Rows.fnChainHasSpec.post enc Try.prog Try.f4 false true false false) := by
  refine returnsInHanded_of_change (C := Try.checked) own started (by kernel_rfl) Try.func4
    (ChangeSpec.witness6 (enc := enc) (C := Try.checked) false ⟨#[], #[.slice none 0 0, .slice none 0 0], []⟩ 8 (by kernel_rfl) (by kernel_rfl) (by kernel_rfl) (by kernel_rfl)) ?_
  intro W base args ds gs before hval0 hW hcnd _
  have hval : ∀ (j : Nat) t v, Try.f4.params[j]? = some t → args[j]? = some v → Value.okWide Try.prog W .any base t v := hval0
  have hW' := hW
  obtain ⟨p, q, hA0, hV, rfl, hfz, hnd⟩ := hW
  have hA : DataW.TrodAll enc Try.prog W 0 (fun _ => true) true Try.f4.params.toList args.toList ds p := hA0
  rw [Try.params4] at hA hval
  obtain ⟨v0, vs0, d0, ds0, p0, q0, hargs, rfl, rfl, h0, r0⟩ := trodAll_cons hA
  obtain ⟨v1, vs1, d1, ds1, p1, q1, rfl, rfl, rfl, h1, r1⟩ := trodAll_cons r0
  obtain ⟨rfl, rfl, rfl⟩ := trodAll_nil r1
  obtain rfl : args = #[v0, v1] := by cases args; simp_all
  obtain ⟨rfl, rfl⟩ := trodVars_none hV
  have lt0 : ∀ x ∈ p0, x.block < W.heap.size := by obtain ⟨m, hm⟩ := h0; exact DataW.trod_lt m _ _ _ hm
  obtain ⟨a0, l0, k0, rfl, w0⟩ := bytes_of Try.underlying22 Try.underlying5 (by kernel_rfl) (hval 0 22 v0 rfl rfl) h0
  have lt1 : ∀ x ∈ p1, x.block < W.heap.size := by obtain ⟨m, hm⟩ := h1; exact DataW.trod_lt m _ _ _ hm
  obtain ⟨a1, l1, k1, rfl, w1⟩ := bytes_of Try.underlying22 Try.underlying5 (by kernel_rfl) (hval 1 22 v1 rfl rfl) h1
  clear hA0 hval0
  refine (walk a0 l0 k0 a1 l1 k1 W w0 w1).mono fun e W' ⟨he, bel⟩ => ?_
  subst he
  exact ⟨_, rfl, _, _, _, [], _, [], hW', trodAll_mk1 (shut_bool Try.underlying4 _), (trodAll_cons_mk (Below.trod laidOut (by kernel_rfl) (of_decide_eq_true (by kernel_rfl)) h0 bel lt0) (trodAll_cons_mk (Below.trod laidOut (by kernel_rfl) (of_decide_eq_true (by kernel_rfl)) h1 bel lt1) trodAll_mk0)), rfl, bel.frame _, fun h => by cases h⟩

theorem over_row : Rows.fnChainHasRow.holds Try.pinned (OpenSpec.ofChange Rows.fnChainHasSpec) :=
  OpenClaim.holds_of_wide 4 Try.f4 rfl rfl rfl rfl rfl rfl rfl ⟨rfl, rfl, rfl, rfl, rfl⟩ rfl rfl rfl rfl rfl (by kernel_rfl) Try.func4 (by kernel_rfl)
    (of_decide_eq_true (by kernel_rfl)) (by unfold Func.isWrapper; first | (rw [if_pos (by decide +kernel)]; kernel_rfl) | (rw [if_neg (by decide +kernel)]; exact ⟨rfl, rfl⟩))
    (fun os started H enc _ => lifted os started H enc)

/-- The statement. -/
theorem proved : Rows.FnChainHasSaid := over_row
end Go.Proofs.Ytdheoaefmacamaa.fnChainHas
