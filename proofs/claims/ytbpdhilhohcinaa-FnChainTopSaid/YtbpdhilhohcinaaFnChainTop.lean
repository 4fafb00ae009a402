/- The newest version of a key is there, and none of it is newer. Of every input that the given statement lets in. -/
import Derived.Test.YtbpdhilhohcinaaOpen
import Derived.Test.YtbpdhilhohcinaaDrawC
import Derived.Test.YtbpdhilhohcinaaLiH
import Derived.Test.YtbpdhilhohcinaaTopW2
namespace Go.Proofs.Ytbpdhilhohcinaa.fnChainTop
open Go.ChangeShapes Go.WideShapes Go.ChangeAt Go.RowKit
set_option linter.unusedVariables false
def anyK (l : List Vp) (key : Int) : Bool := l.any fun v => decide (v.key = key)
theorem anyK_take (l : List Vp) (key : Int) (k : Nat) (h : k < l.length) : anyK (l.take (k + 1)) key = (anyK (l.take k) key || decide (l[k].key = key)) := by
  unfold anyK; rw [List.take_succ_eq_append_getElem h, List.any_append]; simp
theorem top_less {l : List Vp} {key : Int} {V x : Vp} (hok : chainOkB l = true) (hV : (topV l key).getD zeroV = V) (hx : x ∈ l) (hk : x.key = key) : stampLessB V.time V.site x.time x.site = false := by
  have hs := ((good_iff l).1 hok).srt
  rw [topV_ok hok] at hV
  cases ht : topF l key with
  | none => exact absurd hk (topF_none ht x hx)
  | some v => rw [ht] at hV; simp only [Option.getD_some] at hV; subst hV; exact top_notless hs ht hx hk
theorem top_in {l : List Vp} {key : Int} {V : Vp} (hok : chainOkB l = true) (hV : (topV l key).getD zeroV = V) (hb : (topV l key).isSome = true) : V ∈ l ∧ V.key = key := by
  rw [topV_ok hok] at hV hb
  cases ht : topF l key with
  | none => rw [ht] at hb; cases hb
  | some v => rw [ht] at hV; simp only [Option.getD_some] at hV; subst hV; exact topF_some ht
theorem top_any {l : List Vp} {key : Int} {b : Bool} (hok : chainOkB l = true) (hb : (topV l key).isSome = b) : anyK l key = b := by
  rw [topV_ok hok] at hb
  cases ht : topF l key with
  | none =>
    rw [ht] at hb; subst hb
    simp only [anyK, List.any_eq_false, decide_eq_true_eq, Option.isSome_none]
    exact topF_none ht
  | some v =>
    rw [ht] at hb; subst hb
    simp only [anyK, List.any_eq_true, decide_eq_true_eq, Option.isSome_some]
    exact ⟨v, topF_some ht⟩
theorem allIn_one {l : List Mv} {m : Mv} (hs : Sorted (vs l)) (h : m.v ∈ vs l) : AllIn l [m] := fun k hk => by
  have hk0 : k = 0 := by simp at hk; exact hk
  subst hk0
  have h1 := getV_mem hs h
  rw [← getM_v] at h1
  obtain ⟨g, hg, hv⟩ := Option.map_eq_some_iff.1 h1
  exact ⟨g, hg, hv⟩
theorem vers_one {w : World} (m : Mv) (h : Reads w m.a m.v.deps.length m.c (dpsC m.v.deps)) : Vers (w.alloc (.cells #[.int .i64 m.v.key, .int .i64 m.v.time, .int .i64 m.v.site, .int .i64 m.v.val, .int .i64 m.v.client, .int .i64 m.v.call, .slice m.a m.v.deps.length m.c] 54)) (some ⟨w.heap.size, 0, none⟩) 1 [m] := by
  have hB := Blk.new w #[.int .i64 m.v.key, .int .i64 m.v.time, .int .i64 m.v.site, .int .i64 m.v.val, .int .i64 m.v.client, .int .i64 m.v.call, .slice m.a m.v.deps.length m.c] 54
  refine ⟨⟨Nat.le_refl _, by unfold maxLen; simp, fun _ => ⟨w.heap.size, 0, rfl, hB.lt, fun j u hj => ?_⟩⟩, fun y hy => ?_⟩
  · rw [Nat.zero_add]
    exact hB.cell j (by simpa [mvsC, mvC] using hj)
  · simp only [List.mem_singleton] at hy; subst hy; exact h.alloc _
set_option maxRecDepth 100000 in
set_option maxHeartbeats 4000000 in
theorem walk (a0 : Option Addr) (l0 k0 : Nat) (w : World) (w0 : BytesIn w a0 l0 k0) :
    Calls Try.prog 8 #[.slice a0 l0 k0] w fun e w' => e = .returned (.bool true) ∧ Below w.heap.size w w' := by
  by_cases hbig : 1048576 < l0
  · have hbig' : (1048576 : Int) < (l0 : Int) := by omega
    go_enter Try.func8, Try.ntmps8
    go_wp2
    go_ret
    exact ⟨rfl, Below.refl _ _⟩
  · have hbig' : (l0 : Int) ≤ (1048576 : Int) := by omega
    go_enter Try.func8, Try.ntmps8
    go_wp2_with fail
    refine (DrawChainTop_any _ _ _ _ w0).mono ?_
    rintro e w1 ⟨l, pa, ca, key, rfl, hl, hsm, vl, hb1⟩
    have G0 := hb1
    have hfew := hsm.few hl
    have hl0 := hl
    obtain ⟨V, hV⟩ : ∃ V, (topV (vs l) key).getD zeroV = V := ⟨_, rfl⟩
    obtain ⟨b, hb_⟩ : ∃ b, (topV (vs l) key).isSome = b := ⟨_, rfl⟩
    have hV := Lib.hid hV
    have hb_ := Lib.hid hb_
    have hbb : (b != b) = false := by cases b <;> rfl
    have hbe : (b == b) = true := by cases b <;> rfl
    go_wp2_with fail
    have sz2 := G0.size
    refine (gives_as (ChainTop_spec l key pa ca _ vl hfew) ⟨hV.out, hb_.out⟩).mono ?_
    rintro e w2 ⟨p2, c2, rfl, own2, hb2⟩
    have G0 := below_after G0 hb2
    have vl := vl.below hb2
    have first2 := own2
    have BW := Blk.new w2 #[.int .i64 V.key, .int .i64 V.time, .int .i64 V.site, .int .i64 V.val, .int .i64 V.client, .int .i64 V.call, .slice p2 V.deps.length c2] 54
    have hbBW := below_box w2 (.cells #[.int .i64 V.key, .int .i64 V.time, .int .i64 V.site, .int .i64 V.val, .int .i64 V.client, .int .i64 V.call, .slice p2 V.deps.length c2] 54)
    have own2 := own_below own2 hbBW
    have G0 := below_after G0 hbBW
    have vl := vl.below hbBW
    obtain ⟨BW0, BW1, BW2, BW3, BW4, BW5, BW6, BWf, BWl⟩ := BW.seven
    go_wp2_with fail
    have sz3 := G0.size
    refine (gives_as (ChainTop_impl l key pa ca _ vl hfew) ⟨hV.out, hb_.out⟩).mono ?_
    rintro e w3 ⟨p3, c3, rfl, own3, hb3⟩
    have own2 := own_below own2 hb3
    have BW := BW.below hb3 BW.lt
    have G0 := below_after G0 hb3
    have vl := vl.below hb3
    have first3 := own3
    have BG := Blk.new w3 #[.int .i64 V.key, .int .i64 V.time, .int .i64 V.site, .int .i64 V.val, .int .i64 V.client, .int .i64 V.call, .slice p3 V.deps.length c3] 54
    have hbBG := below_box w3 (.cells #[.int .i64 V.key, .int .i64 V.time, .int .i64 V.site, .int .i64 V.val, .int .i64 V.client, .int .i64 V.call, .slice p3 V.deps.length c3] 54)
    have BW := BW.alloc (.cells #[.int .i64 V.key, .int .i64 V.time, .int .i64 V.site, .int .i64 V.val, .int .i64 V.client, .int .i64 V.call, .slice p3 V.deps.length c3] 54)
    have own2 := own_below own2 hbBG
    have own3 := own_below own3 hbBG
    have G0 := below_after G0 hbBG
    have vl := vl.below hbBG
    obtain ⟨BW0, BW1, BW2, BW3, BW4, BW5, BW6, BWf, BWl⟩ := BW.seven
    obtain ⟨BG0, BG1, BG2, BG3, BG4, BG5, BG6, BGf, BGl⟩ := BG.seven
    go_wp2_with fail
    refine (liVer_same V p3 p2 c3 c2 _ (Reads.own own3) (Reads.own own2)).mono ?_
    rintro e w4 ⟨rfl, hb4⟩
    have own2 := own_below own2 hb4
    have own3 := own_below own3 hb4
    have BW := BW.below hb4 BW.lt
    have BG := BG.below hb4 BG.lt
    have G0 := below_after G0 hb4
    have vl := vl.below hb4
    have ls4 := hb4.size
    obtain ⟨BW0, BW1, BW2, BW3, BW4, BW5, BW6, BWf, BWl⟩ := BW.seven
    obtain ⟨BG0, BG1, BG2, BG3, BG4, BG5, BG6, BGf, BGl⟩ := BG.seven
    go_wp2_with fail
    refine (ChainOk_spec l pa ca _ vl hfew).mono ?_
    rintro e w5 ⟨rfl, hb5⟩
    have own2 := own_below own2 hb5
    have own3 := own_below own3 hb5
    have BW := BW.below hb5 BW.lt
    have BG := BG.below hb5 BG.lt
    have G0 := below_after G0 hb5
    have vl := vl.below hb5
    have ls5 := hb5.size
    rcases hok : chainOkB (vs l) with _ | _
    · skip
      obtain ⟨BW0, BW1, BW2, BW3, BW4, BW5, BW6, BWf, BWl⟩ := BW.seven
      obtain ⟨BG0, BG1, BG2, BG3, BG4, BG5, BG6, BGf, BGl⟩ := BG.seven
      go_wp2_with fail
      refine (liVer_same V p3 p2 c3 c2 _ (Reads.own own3) (Reads.own own2)).mono ?_
      rintro e w6 ⟨rfl, hb6⟩
      have own2 := own_below own2 hb6
      have own3 := own_below own3 hb6
      have BW := BW.below hb6 BW.lt
      have BG := BG.below hb6 BG.lt
      have G0 := below_after G0 hb6
      have vl := vl.below hb6
      have ls6 := hb6.size
      go_wp2
      go_ret
      exact ⟨rfl, G0⟩
    have HC := Lib.hid (top_any hok hb_.out)
    have HK := Lib.hid hok
    clear hok
    go_wp2
    go_loopw [9, 10] (fun n i wr => ∃ k : Nat, k ≤ l.length ∧ i = .int .i64 k ∧ n = .bool (anyK ((vs l).take k) key) ∧ Below w5.heap.size w5 wr) (fun _ i _ => l.length - (intOf i).toNat)
    case atStart => exact ⟨0, Nat.zero_le _, rfl, rfl, Below.refl _ _⟩
    case round =>
      obtain ⟨k, hk, rfl, rfl, hbk⟩ := hrel
      have own2 := own_below own2 hbk
      have own3 := own_below own3 hbk
      have BW := BW.below hbk BW.lt
      have BG := BG.below hbk BG.lt
      have G0 := below_after G0 hbk
      have vl := vl.below hbk
      obtain ⟨BW0, BW1, BW2, BW3, BW4, BW5, BW6, BWf, BWl⟩ := BW.seven
      obtain ⟨BG0, BG1, BG2, BG3, BG4, BG5, BG6, BGf, BGl⟩ := BG.seven
      by_cases hlt : k < l.length
      · skip
        have hkv : k < (vs l).length := by rw [vs_len]; exact hlt
        have HT := Lib.hid (anyK_take (vs l) key k hkv)
        have HE := Lib.hid (vs_get l k hlt)
        have hi0 : (0 : Int) ≤ (k : Int) := by omega
        have hi1 : (k : Int) < (l.length : Int) := by omega
        obtain ⟨b1, off, hab, hbl, c0, c1, c2', c3', c4, c5, c6⟩ := vl.at_ k hlt
        subst hab
        by_cases h1 : l[k].v.key = key
        · have h1' : (l[k].v.key == key) = true := by simpa using h1
          have HN : Hid (anyK ((vs l).take (k + 1)) key = true) := by show _ = _; rw [HT.out, HE.out]; simp [h1]
          have hless : stampLessB V.time V.site l[k].v.time l[k].v.site = false := by
            have := top_less HK.out hV.out (List.getElem_mem hkv) (by rw [HE.out]; exact h1)
            rwa [HE.out] at this
          have h1 := Lib.hid h1
          go_wp2
          refine region_over (by kernel_rfl) (by kernel_rfl) ?_
          repeat (go_big_quiet_step (first | (go_at_call 37; exact quiet_over (bool_is hless (stampLess_impl _ _ _ _ _)))))
          refine wpQuiet_nil ?_
          intro w9 hb9
          have hbk := below_after hbk hb9
          go_wp2
          go_roundw
          case rel => exact ⟨k + 1, by omega, by go_num, by rw [HN.out], hbk⟩
          case measure => simp [intOf]; omega
        · have h1' : (l[k].v.key == key) = false := by simpa using h1
          have HN : Hid (anyK ((vs l).take (k + 1)) key = anyK ((vs l).take k) key) := by show _ = _; rw [HT.out, HE.out]; simp [h1]
          have h1 := Lib.hid h1
          go_wp2
          go_roundw
          case rel => exact ⟨k + 1, by omega, by go_num, by rw [HN.out], hbk⟩
          case measure => simp [intOf]; omega
      · skip
        obtain rfl : k = l.length := by omega
        have hbf : anyK ((vs l).take l.length) key = b := by rw [← HC.out, ← vs_len l, List.take_length]
        rw [hbf]
        clear hbf
        cases b with
        | false =>
          go_wp2
          go_ret
          exact ⟨rfl, G0⟩
        | true =>
          obtain ⟨hin, hke⟩ := top_in HK.out hV.out hb_.out
          have HIN : Hid (AllIn l [⟨V, p3, c3⟩]) := allIn_one ((good_iff _).1 HK.out).srt hin
          have hke' : (V.key == key) = true := by simpa using hke
          clear hin hke
          have hbx := below_box wr (.cells #[.int .i64 V.key, .int .i64 V.time, .int .i64 V.site, .int .i64 V.val, .int .i64 V.client, .int .i64 V.call, .slice p3 V.deps.length c3] 54)
          have vone : Vers (wr.alloc (.cells #[.int .i64 V.key, .int .i64 V.time, .int .i64 V.site, .int .i64 V.val, .int .i64 V.client, .int .i64 V.call, .slice p3 V.deps.length c3] 54)) (some ⟨wr.heap.size, 0, none⟩) 1 [⟨V, p3, c3⟩] := vers_one ⟨V, p3, c3⟩ (Reads.own own3)
          obtain ⟨BW0, BW1, BW2, BW3, BW4, BW5, BW6, BWf, BWl⟩ := BW.seven
          obtain ⟨BG0, BG1, BG2, BG3, BG4, BG5, BG6, BGf, BGl⟩ := BG.seven
          go_wp2_with fail
          have own2 := own_below own2 hbx
          have own3 := own_below own3 hbx
          have BW := BW.below hbx BW.lt
          have BG := BG.below hbx BG.lt
          have G0 := below_after G0 hbx
          have vl := vl.below hbx
          refine (liHas_all l [⟨V, p3, c3⟩] pa (some ⟨wr.heap.size, 0, none⟩) ca 1 _ vl vone (by omega) HIN.out).mono ?_
          rintro e w11 ⟨rfl, hb11⟩
          have own2 := own_below own2 hb11
          have own3 := own_below own3 hb11
          have BW := BW.below hb11 BW.lt
          have BG := BG.below hb11 BG.lt
          have G0 := below_after G0 hb11
          have vl := vl.below hb11
          obtain ⟨BW0, BW1, BW2, BW3, BW4, BW5, BW6, BWf, BWl⟩ := BW.seven
          obtain ⟨BG0, BG1, BG2, BG3, BG4, BG5, BG6, BGf, BGl⟩ := BG.seven
          go_wp2
          go_ret
          exact ⟨rfl, G0⟩

set_option maxRecDepth 100000 in
theorem lifted (os : Os) (started : os.Started) (H : Type) (enc : TypeId × Value → H) :
    ReturnsInHanded {} Try.checked os 8 .any (Rows.fnChainTopSpec.pre6 enc Try.prog Try.f8 Rows.fnChainTopRow.domain false) (Rows.fnChainTopSpec.post enc Try.prog Try.f8 false true false false) := by
  refine returnsInHanded_of_change (C := Try.checked) own started (by kernel_rfl) Try.func8
    (ChangeSpec.witness6 (enc := enc) (C := Try.checked) false ⟨#[], #[.slice none 0 0], []⟩ 8 (by kernel_rfl) (by kernel_rfl) (by kernel_rfl) (by kernel_rfl)) ?_
  intro W base args ds gs before hval0 hW hcnd _
  have hval : ∀ (j : Nat) t v, Try.f8.params[j]? = some t → args[j]? = some v → Value.okWide Try.prog W .any base t v := hval0
  have hW' := hW
  obtain ⟨p, q, hA0, hV, rfl, hfz, hnd⟩ := hW
  have hA : DataW.TrodAll enc Try.prog W 0 (fun _ => true) true Try.f8.params.toList args.toList ds p := hA0
  rw [Try.params8] at hA hval
  obtain ⟨v0, vs0, d0, ds0, p0, q0, hargs, rfl, rfl, h0, r0⟩ := trodAll_cons hA
  obtain ⟨rfl, rfl, rfl⟩ := trodAll_nil r0
  obtain rfl : args = #[v0] := by cases args; simp_all
  obtain ⟨rfl, rfl⟩ := trodVars_none hV
  have lt0 : ∀ x ∈ p0, x.block < W.heap.size := by obtain ⟨m, hm⟩ := h0; exact DataW.trod_lt m _ _ _ hm
  obtain ⟨a0, l0, k0, rfl, w0⟩ := bytes_of Try.underlying44 Try.underlying5 (by kernel_rfl) (hval 0 44 v0 rfl rfl) h0
  clear hA0 hval0
  refine (walk a0 l0 k0 W w0).mono fun e W' ⟨he, bel⟩ => ?_
  subst he
  exact ⟨_, rfl, _, _, _, [], _, [], hW', trodAll_mk1 (shut_bool Try.underlying4 _), (trodAll_cons_mk (Below.trod laidOut (by kernel_rfl) (of_decide_eq_true (by kernel_rfl)) h0 bel lt0) trodAll_mk0), rfl, bel.frame _, fun h => by cases h⟩

theorem over_row : Rows.fnChainTopRow.holds Try.pinned (OpenSpec.ofChange Rows.fnChainTopSpec) :=
  OpenClaim.holds_of_wide 8 Try.f8 rfl rfl rfl rfl rfl rfl rfl ⟨rfl, rfl, rfl, rfl, rfl⟩ rfl rfl rfl rfl rfl (by kernel_rfl) Try.func8 (by kernel_rfl)
    (of_decide_eq_true (by kernel_rfl)) (by unfold Func.isWrapper; first | (rw [if_pos (by decide +kernel)]; kernel_rfl) | (rw [if_neg (by decide +kernel)]; exact ⟨rfl, rfl⟩))
    (fun os started H enc _ => lifted os started H enc)

/-- The statement. -/
theorem proved : Rows.FnChainTopSaid := over_row
end Go.Proofs.Ytbpdhilhohcinaa.fnChainTop
