/- A version that is found by its stamp has it, and is the only one. Of every input that the given statement lets in. -/
import Derived.Test.YtbpdhilhohcinaaOpen
import Derived.Test.YtbpdhilhohcinaaDrawC2
import Derived.Test.YtbpdhilhohcinaaLiV
import Derived.Test.YtbpdhilhohcinaaChainN
namespace Go.Proofs.Ytbpdhilhohcinaa.fnChainAt
open Go.ChangeShapes Go.WideShapes Go.ChangeAt Go.RowKit
set_option linter.unusedVariables false

set_option maxRecDepth 100000 in
set_option maxHeartbeats 4000000 in
theorem walk (a0 : Option Addr) (l0 k0 : Nat) (w : World) (w0 : BytesIn w a0 l0 k0) :
    Calls Try.prog 7 #[.slice a0 l0 k0] w fun e w' => e = .returned (.bool true) ∧ Below w.heap.size w w' := by
  by_cases hbig : 1048576 < l0
  · have hbig' : (1048576 : Int) < (l0 : Int) := by omega
    go_enter Try.func7, Try.ntmps7
    go_wp2
    go_ret
    exact ⟨rfl, Below.refl _ _⟩
  · have hbig' : (l0 : Int) ≤ (1048576 : Int) := by omega
    go_enter Try.func7, Try.ntmps7
    go_wp2_with fail
    refine (DrawChainAt_any _ _ _ _ w0).mono ?_
    rintro e w1 ⟨l, pa, ca, q, rfl, hl, hsm, vl, hb1⟩
    have G0 := hb1
    have hfew := hsm.few hl
    have hl0 := hl
    have BS := Blk.new w1 #[.int .i64 q.2.1, .int .i64 q.2.2] 32
    have hbBS := below_box w1 (.cells #[.int .i64 q.2.1, .int .i64 q.2.2] 32)
    have G0 := below_after G0 hbBS
    have vl := vl.below hbBS
    obtain ⟨V, hV⟩ : ∃ V, (atV (vs l) q).getD zeroV = V := ⟨_, rfl⟩
    obtain ⟨b, hb_⟩ : ∃ b, (atV (vs l) q).isSome = b := ⟨_, rfl⟩
    have hV := Lib.hid hV
    have hb_ := Lib.hid hb_
    have hbb : (b != b) = false := by cases b <;> rfl
    have hbe : (b == b) = true := by cases b <;> rfl
    obtain ⟨BS0, BS1, BSf, BSl⟩ := BS.two
    go_wp2_with fail
    have sz2 := G0.size
    refine (gives_as (ChainAt_spec l q pa ca _ vl hfew) ⟨hV.out, hb_.out⟩).mono ?_
    rintro e w2 ⟨p2, c2, rfl, own2, hb2⟩
    have BS := BS.below hb2 BS.lt
    have G0 := below_after G0 hb2
    have vl := vl.below hb2
    have first2 := own2
    have BW := Blk.new w2 #[.int .i64 V.key, .int .i64 V.time, .int .i64 V.site, .int .i64 V.val, .int .i64 V.client, .int .i64 V.call, .slice p2 V.deps.length c2] 54
    have hbBW := below_box w2 (.cells #[.int .i64 V.key, .int .i64 V.time, .int .i64 V.site, .int .i64 V.val, .int .i64 V.client, .int .i64 V.call, .slice p2 V.deps.length c2] 54)
    have BS := BS.alloc (.cells #[.int .i64 V.key, .int .i64 V.time, .int .i64 V.site, .int .i64 V.val, .int .i64 V.client, .int .i64 V.call, .slice p2 V.deps.length c2] 54)
    have own2 := own_below own2 hbBW
    have G0 := below_after G0 hbBW
    have vl := vl.below hbBW
    obtain ⟨BS0, BS1, BSf, BSl⟩ := BS.two
    obtain ⟨BW0, BW1, BW2, BW3, BW4, BW5, BW6, BWf, BWl⟩ := BW.seven
    go_wp2_with fail
    have sz3 := G0.size
    refine (gives_as (ChainAt_impl l q pa ca _ vl hfew) ⟨hV.out, hb_.out⟩).mono ?_
    rintro e w3 ⟨p3, c3, rfl, own3, hb3⟩
    have own2 := own_below own2 hb3
    have BS := BS.below hb3 BS.lt
    have BW := BW.below hb3 BW.lt
    have G0 := below_after G0 hb3
    have vl := vl.below hb3
    have first3 := own3
    have BG := Blk.new w3 #[.int .i64 V.key, .int .i64 V.time, .int .i64 V.site, .int .i64 V.val, .int .i64 V.client, .int .i64 V.call, .slice p3 V.deps.length c3] 54
    have hbBG := below_box w3 (.cells #[.int .i64 V.key, .int .i64 V.time, .int .i64 V.site, .int .i64 V.val, .int .i64 V.client, .int .i64 V.call, .slice p3 V.deps.length c3] 54)
    have BS := BS.alloc (.cells #[.int .i64 V.key, .int .i64 V.time, .int .i64 V.site, .int .i64 V.val, .int .i64 V.client, .int .i64 V.call, .slice p3 V.deps.length c3] 54)
    have BW := BW.alloc (.cells #[.int .i64 V.key, .int .i64 V.time, .int .i64 V.site, .int .i64 V.val, .int .i64 V.client, .int .i64 V.call, .slice p3 V.deps.length c3] 54)
    have own2 := own_below own2 hbBG
    have own3 := own_below own3 hbBG
    have G0 := below_after G0 hbBG
    have vl := vl.below hbBG
    obtain ⟨BS0, BS1, BSf, BSl⟩ := BS.two
    obtain ⟨BW0, BW1, BW2, BW3, BW4, BW5, BW6, BWf, BWl⟩ := BW.seven
    obtain ⟨BG0, BG1, BG2, BG3, BG4, BG5, BG6, BGf, BGl⟩ := BG.seven
    go_wp2_with fail
    refine (liVer_same V p3 p2 c3 c2 _ (Reads.own own3) (Reads.own own2)).mono ?_
    rintro e w4 ⟨rfl, hb4⟩
    have own2 := own_below own2 hb4
    have own3 := own_below own3 hb4
    have BS := BS.below hb4 BS.lt
    have BW := BW.below hb4 BW.lt
    have BG := BG.below hb4 BG.lt
    have G0 := below_after G0 hb4
    have vl := vl.below hb4
    have ls4 := hb4.size
    obtain ⟨BS0, BS1, BSf, BSl⟩ := BS.two
    obtain ⟨BW0, BW1, BW2, BW3, BW4, BW5, BW6, BWf, BWl⟩ := BW.seven
    obtain ⟨BG0, BG1, BG2, BG3, BG4, BG5, BG6, BGf, BGl⟩ := BG.seven
    go_wp2_with fail
    refine (ChainOk_spec l pa ca _ vl hfew).mono ?_
    rintro e w5 ⟨rfl, hb5⟩
    have own2 := own_below own2 hb5
    have own3 := own_below own3 hb5
    have BS := BS.below hb5 BS.lt
    have BW := BW.below hb5 BW.lt
    have BG := BG.below hb5 BG.lt
    have G0 := below_after G0 hb5
    have vl := vl.below hb5
    have ls5 := hb5.size
    rcases hok : chainOkB (vs l) with _ | _
    · skip
      obtain ⟨BS0, BS1, BSf, BSl⟩ := BS.two
      obtain ⟨BW0, BW1, BW2, BW3, BW4, BW5, BW6, BWf, BWl⟩ := BW.seven
      obtain ⟨BG0, BG1, BG2, BG3, BG4, BG5, BG6, BGf, BGl⟩ := BG.seven
      go_wp2_with fail
      refine (liVer_same V p3 p2 c3 c2 _ (Reads.own own3) (Reads.own own2)).mono ?_
      rintro e w6 ⟨rfl, hb6⟩
      have own2 := own_below own2 hb6
      have own3 := own_below own3 hb6
      have BS := BS.below hb6 BS.lt
      have BW := BW.below hb6 BW.lt
      have BG := BG.below hb6 BG.lt
      have G0 := below_after G0 hb6
      have vl := vl.below hb6
      have ls6 := hb6.size
      go_wp2
      go_ret
      exact ⟨rfl, G0⟩
    have HK := Lib.hid hok
    have HC := Lib.hid (at_count hok q)
    clear hok
    go_wp2
    go_loopw [10, 11] (fun n i wr => ∃ k : Nat, k ≤ l.length ∧ i = .int .i64 k ∧ n = .int .i64 (cntV ((vs l).take k) q : Nat) ∧ Below w5.heap.size w5 wr) (fun _ i _ => l.length - (intOf i).toNat)
    case atStart => exact ⟨0, Nat.zero_le _, rfl, rfl, Below.refl _ _⟩
    case round =>
      obtain ⟨k, hk, rfl, rfl, hbk⟩ := hrel
      have own2 := own_below own2 hbk
      have own3 := own_below own3 hbk
      have BS := BS.below hbk BS.lt
      have BW := BW.below hbk BW.lt
      have BG := BG.below hbk BG.lt
      have G0 := below_after G0 hbk
      have vl := vl.below hbk
      obtain ⟨BS0, BS1, BSf, BSl⟩ := BS.two
      obtain ⟨BW0, BW1, BW2, BW3, BW4, BW5, BW6, BWf, BWl⟩ := BW.seven
      obtain ⟨BG0, BG1, BG2, BG3, BG4, BG5, BG6, BGf, BGl⟩ := BG.seven
      have hck : cntV ((vs l).take k) q ≤ k := Nat.le_trans List.countP_le_length (by rw [List.length_take]; omega)
      by_cases hlt : k < l.length
      · skip
        have hkv : k < (vs l).length := by rw [vs_len]; exact hlt
        have HT := Lib.hid (cntV_take (vs l) q k hkv)
        have HE := Lib.hid (vs_get l k hlt)
        have hi0 : (0 : Int) ≤ (k : Int) := by omega
        have hi1 : (k : Int) < (l.length : Int) := by omega
        obtain ⟨b1, off, hab, hbl, c0, c1, c2', c3', c4, c5, c6⟩ := vl.at_ k hlt
        subst hab
        by_cases h1 : l[k].v.key = q.1
        · have h1' : (l[k].v.key == q.1) = true := by simpa using h1
          have h1 := Lib.hid h1
          by_cases h2 : l[k].v.time = q.2.1
          · have h2' : (l[k].v.time == q.2.1) = true := by simpa using h2
            have h2 := Lib.hid h2
            by_cases h3 : l[k].v.site = q.2.2
            · have h3' : (l[k].v.site == q.2.2) = true := by simpa using h3
              have h3 := Lib.hid h3
              go_wp2
              refine region_over (by kernel_rfl) (by kernel_rfl) ?_
              repeat (go_big_quiet_step (fail))
              refine wpQuiet_nil ?_
              intro w9 hb9
              have hbk := below_after hbk hb9
              have HN : Hid (cntV ((vs l).take (k + 1)) q = cntV ((vs l).take k) q + 1) := by show _ = _; rw [HT.out, HE.out]; simp [isV, h1.out, h2.out, h3.out]
              go_wp2
              go_roundw
              case rel => exact ⟨k + 1, by omega, by go_num, by rw [HN.out]; exact int_eq (by push_cast; omega), hbk⟩
              case measure => simp [intOf]; omega
            · have h3' : (l[k].v.site == q.2.2) = false := by simpa using h3
              have h3 := Lib.hid h3
              go_wp2
              refine region_over (by kernel_rfl) (by kernel_rfl) ?_
              repeat (go_big_quiet_step (fail))
              refine wpQuiet_nil ?_
              intro w9 hb9
              have hbk := below_after hbk hb9
              have HN : Hid (cntV ((vs l).take (k + 1)) q = cntV ((vs l).take k) q) := by show _ = _; rw [HT.out, HE.out]; simp [isV, h3.out]
              go_wp2
              go_roundw
              case rel => exact ⟨k + 1, by omega, by go_num, by rw [HN.out], hbk⟩
              case measure => simp [intOf]; omega
          · have h2' : (l[k].v.time == q.2.1) = false := by simpa using h2
            have h2 := Lib.hid h2
            go_wp2
            refine region_over (by kernel_rfl) (by kernel_rfl) ?_
            repeat (go_big_quiet_step (fail))
            refine wpQuiet_nil ?_
            intro w9 hb9
            have hbk := below_after hbk hb9
            have HN : Hid (cntV ((vs l).take (k + 1)) q = cntV ((vs l).take k) q) := by show _ = _; rw [HT.out, HE.out]; simp [isV, h2.out]
            go_wp2
            go_roundw
            case rel => exact ⟨k + 1, by omega, by go_num, by rw [HN.out], hbk⟩
            case measure => simp [intOf]; omega
        · have h1' : (l[k].v.key == q.1) = false := by simpa using h1
          have h1 := Lib.hid h1
          go_wp2
          refine region_over (by kernel_rfl) (by kernel_rfl) ?_
          repeat (go_big_quiet_step (fail))
          refine wpQuiet_nil ?_
          intro w9 hb9
          have hbk := below_after hbk hb9
          have HN : Hid (cntV ((vs l).take (k + 1)) q = cntV ((vs l).take k) q) := by show _ = _; rw [HT.out, HE.out]; simp [isV, h1.out]
          go_wp2
          go_roundw
          case rel => exact ⟨k + 1, by omega, by go_num, by rw [HN.out], hbk⟩
          case measure => simp [intOf]; omega
      · skip
        obtain rfl : k = l.length := by omega
        have hct : cntV ((vs l).take l.length) q = cntV (vs l) q := by rw [← vs_len l, List.take_length]
        have HCC := HC.out
        rw [hV.out, hb_.out, ← hct] at HCC
        have hcn := Lib.hid hct
        clear hct
        rcases HCC with ⟨rfl, hn, e0, e1, e2⟩ | ⟨rfl, hn⟩
        · rw [hn]
          have f0 : (V.key == q.1) = true := by simpa using e0
          have f1 : (V.time == q.2.1) = true := by simpa using e1
          have f2 : (V.site == q.2.2) = true := by simpa using e2
          clear hn e0 e1 e2
          go_wp2
          go_ret
          exact ⟨rfl, G0⟩
        · rw [hn]
          clear hn
          go_wp2
          go_ret
          exact ⟨rfl, G0⟩

set_option maxRecDepth 100000 in
theorem lifted (os : Os) (started : os.Started) (H : Type) (enc : TypeId × Value → H) :
    ReturnsInHanded {} Try.checked os 7 .any (Rows.fnChainAtSpec.pre6 enc Try.prog Try.f7 Rows.fnChainAtRow.domain false) (Rows.fnChainAtSpec.post enc Try.prog Try.f7 false true false false) := by
  refine returnsInHanded_of_change (C := Try.checked) own started (by kernel_rfl) Try.func7
    (ChangeSpec.witness6 (enc := enc) (C := Try.checked) false ⟨#[], #[.slice none 0 0], []⟩ 8 (by kernel_rfl) (by kernel_rfl) (by kernel_rfl) (by kernel_rfl)) ?_
  intro W base args ds gs before hval0 hW hcnd _
  have hval : ∀ (j : Nat) t v, Try.f7.params[j]? = some t → args[j]? = some v → Value.okWide Try.prog W .any base t v := hval0
  have hW' := hW
  obtain ⟨p, q, hA0, hV, rfl, hfz, hnd⟩ := hW
  have hA : DataW.TrodAll enc Try.prog W 0 (fun _ => true) true Try.f7.params.toList args.toList ds p := hA0
  rw [Try.params7] at hA hval
  obtain ⟨v0, vs0, d0, ds0, p0, q0, hargs, rfl, rfl, h0, r0⟩ := trodAll_cons hA
  obtain ⟨rfl, rfl, rfl⟩ := trodAll_nil r0
  obtain rfl : args = #[v0] := by cases args; simp_all
  obtain ⟨rfl, rfl⟩ := trodVars_none hV
  have lt0 : ∀ x ∈ p0, x.block < W.heap.size := by obtain ⟨m, hm⟩ := h0; exact DataW.trod_lt m _ _ _ hm
  obtain ⟨a0, l0, k0, rfl, w0⟩ := bytes_of Try.underlying44 Try.underlying5 (by kernel_rfl) (hval 0 44 v0 rfl rfl) h0
  clear hA0 hval0
  refine (walk a0 l0 k0 W w0).mono fun e W' ⟨he, bel⟩ => ?_
  subst he
  exact ⟨_, rfl, _, _, _, [], _, [], hW', trodAll_mk1 (shut_bool Try.underlying4 _), (trodAll_cons_mk (Below.trod laidOut (by kernel_rfl) (of_decide_eq_true (by kernel_rfl)) h0 bel lt0) trodAll_mk0), rfl, bel.frame _, fun h => by cases h⟩

theorem over_row : Rows.fnChainAtRow.holds Try.pinned (OpenSpec.ofChange Rows.fnChainAtSpec) :=
  OpenClaim.holds_of_wide 7 Try.f7 rfl rfl rfl rfl rfl rfl rfl ⟨rfl, rfl, rfl, rfl, rfl⟩ rfl rfl rfl rfl rfl (by kernel_rfl) Try.func7 (by kernel_rfl)
    (of_decide_eq_true (by kernel_rfl)) (by unfold Func.isWrapper; first | (rw [if_pos (by decide +kernel)]; kernel_rfl) | (rw [if_neg (by decide +kernel)]; exact ⟨rfl, rfl⟩))
    (fun os started H enc _ => lifted os started H enc)

/-- The statement. -/
theorem proved : Rows.FnChainAtSaid := over_row
end Go.Proofs.Ytbpdhilhohcinaa.fnChainAt
