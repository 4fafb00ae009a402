/- All slots' versions together are all versions. Of every input that the given statement lets in. -/
import Derived.Test.YtbpdhilhohcinaaOpen
import Derived.Test.YtbpdhilhohcinaaDrawC
import Derived.Test.YtbpdhilhohcinaaLiV
import Derived.Test.YtbpdhilhohcinaaChainN
import Derived.Test.YtbpdhilhohcinaaChainW5
namespace Go.Proofs.Ytbpdhilhohcinaa.fnChainParts
open Go.ChangeShapes Go.WideShapes Go.ChangeAt Go.RowKit
set_option linter.unusedVariables false

set_option maxRecDepth 100000 in
set_option maxHeartbeats 4000000 in
theorem walk (a0 : Option Addr) (l0 k0 : Nat) (w : World) (w0 : BytesIn w a0 l0 k0) :
    Calls Try.prog 10 #[.slice a0 l0 k0] w fun e w' => e = .returned (.bool true) ∧ Below w.heap.size w w' := by
  by_cases hbig : 1048576 < l0
  · have hbig' : (1048576 : Int) < (l0 : Int) := by omega
    go_enter Try.func10, Try.ntmps10
    go_wp2
    go_ret
    exact ⟨rfl, Below.refl _ _⟩
  · have hbig' : (l0 : Int) ≤ (1048576 : Int) := by omega
    go_enter Try.func10, Try.ntmps10
    go_wp2_with fail
    refine (DrawChainSlot_any _ _ _ _ w0).mono ?_
    rintro e w1 ⟨l, pa, ca, slot, rfl, hl, hsm, vl, hb1⟩
    have G0 := hb1
    have hfew := hsm.few hl
    have hl0 := hl
    go_wp2_with fail
    refine (ChainSlot_impl l slot pa ca _ vl hfew).mono ?_
    rintro e w2 ⟨v2, u2, A2, B2, rfl, hA2, hB2, two2, hb2⟩
    obtain ⟨pa2, ca2, rfl, _⟩ := two2.fst.open_
    obtain ⟨pb2, cb2, rfl, _⟩ := two2.snd.open_
    have HA2 := Lib.hid hA2
    have HB2 := Lib.hid hB2
    clear hA2 hB2
    have G0 := below_after G0 hb2
    have vl := vl.below hb2
    go_wp2_with fail
    refine (ChainSlot_spec l slot pa ca _ vl hfew).mono ?_
    rintro e w3 ⟨v3, u3, A3, B3, rfl, hA3, hB3, two3, hb3⟩
    obtain ⟨pa3, ca3, rfl, _⟩ := two3.fst.open_
    obtain ⟨pb3, cb3, rfl, _⟩ := two3.snd.open_
    have HA3 := Lib.hid hA3
    have HB3 := Lib.hid hB3
    clear hA3 hB3
    have G0 := below_after G0 hb3
    have two2 := two2.below hb3
    have vl := vl.below hb3
    go_wp2_with fail
    refine (liVers_same A2 A3 pa2 pa3 ca2 ca3 _ two2.fst.vers two3.fst.vers (by rw [HA2.out, HA3.out])).mono ?_
    rintro e w4 ⟨rfl, hb4⟩
    have G0 := below_after G0 hb4
    have two2 := two2.below hb4
    have two3 := two3.below hb4
    have vl := vl.below hb4
    have ls4 := hb4.size
    go_wp2_with fail
    refine (liVers_same B2 B3 pb2 pb3 cb2 cb3 _ two2.snd.vers two3.snd.vers (by rw [HB2.out, HB3.out])).mono ?_
    rintro e w5 ⟨rfl, hb5⟩
    have G0 := below_after G0 hb5
    have two2 := two2.below hb5
    have two3 := two3.below hb5
    have vl := vl.below hb5
    have ls5 := hb5.size
    go_wp2_with fail
    refine (ChainOk_spec l pa ca _ vl hfew).mono ?_
    rintro e w6 ⟨rfl, hb6⟩
    have G0 := below_after G0 hb6
    have two2 := two2.below hb6
    have two3 := two3.below hb6
    have vl := vl.below hb6
    have ls6 := hb6.size
    rcases hok : chainOkB (vs l) with _ | _
    · skip
      go_wp2_with fail
      refine (liVers_same A2 A3 pa2 pa3 ca2 ca3 _ two2.fst.vers two3.fst.vers (by rw [HA2.out, HA3.out])).mono ?_
      rintro e w7 ⟨rfl, hb7⟩
      have G0 := below_after G0 hb7
      have two2 := two2.below hb7
      have two3 := two3.below hb7
      have vl := vl.below hb7
      have ls7 := hb7.size
      go_wp2_with fail
      refine (liVers_same B2 B3 pb2 pb3 cb2 cb3 _ two2.snd.vers two3.snd.vers (by rw [HB2.out, HB3.out])).mono ?_
      rintro e w8 ⟨rfl, hb8⟩
      have G0 := below_after G0 hb8
      have two2 := two2.below hb8
      have two3 := two3.below hb8
      have vl := vl.below hb8
      have ls8 := hb8.size
      go_wp2
      go_ret
      exact ⟨rfl, G0⟩
    have HK := Lib.hid hok
    have HP := Lib.hid (psum_all hok)
    have HS := Lib.hid (fun s => slot_parts hok s)
    have HLN := Lib.hid (vs_len l)
    clear hok
    go_wp2
    go_loopw [9, 10, 11, 12] (fun n i _ _ wr => ∃ k : Nat, k ≤ 3 ∧ i = .int .i64 k ∧ n = .int .i64 (psum (vs l) k : Nat) ∧ Below w6.heap.size w6 wr) (fun _ i _ _ _ => 3 - (intOf i).toNat)
    case atStart => exact ⟨0, by omega, rfl, rfl, Below.refl _ _⟩
    case round =>
      obtain ⟨k, hk, rfl, rfl, hbk⟩ := hrel
      have hps := psum_le (vs l) k
      rw [HLN.out] at hps
      have G0 := below_after G0 hbk
      have two2 := two2.below hbk
      have two3 := two3.below hbk
      have vl := vl.below hbk
      by_cases hlt : k < 3
      · skip
        have hki : (k : Int) < 3 := by omega
        have hps3 : psum (vs l) k ≤ 420 := by have : k * l.length ≤ 3 * l.length := Nat.mul_le_mul_right _ hk; omega
        clear hps
        go_wp2_with fail
        refine (ChainSlot_impl l (k : Int) pa ca _ vl hfew).mono ?_
        rintro e w9 ⟨v9, u9, A9, B9, rfl, hA9, hB9, two9, hb9⟩
        obtain ⟨pa9, ca9, rfl, _⟩ := two9.fst.open_
        obtain ⟨pb9, cb9, rfl, _⟩ := two9.snd.open_
        have HA9 := Lib.hid hA9
        have HB9 := Lib.hid hB9
        clear hA9 hB9
        have G0 := below_after G0 hb9
        have two2 := two2.below hb9
        have two3 := two3.below hb9
        have vl := vl.below hb9
        have hAl : A9.length = ((vs l).filter (inSlot (k : Int))).length := by rw [← vs_len A9, HA9.out]; exact (HS.out _).2
        have hAB : A9.length + B9.length = l.length := by rw [← vs_len A9, ← vs_len B9, HA9.out, HB9.out, (HS.out _).1, HLN.out]
        have hAi : ((A9.length : Int) + (B9.length : Int)) = (l.length : Int) := by omega
        have hA8 : A9.length ≤ 140 := by omega
        have hB8 : B9.length ≤ 140 := by omega
        have HPN : Hid (psum (vs l) (k + 1) = psum (vs l) k + A9.length) := by show _ = _; rw [hAl]; rfl
        have hne9 : ((A9.length : Int) + (B9.length : Int) != (l.length : Int)) = false := by rw [hAi]; simp
        clear hAl hAB hAi
        have hbk9 := below_after hbk hb9
        go_wp2
        go_roundw
        case rel => exact ⟨k + 1, by omega, by go_num, by rw [HPN.out]; exact int_eq (by push_cast; omega), hbk9⟩
        case measure => simp [intOf]; omega
      · skip
        obtain rfl : k = 3 := by omega
        have hp3 : (psum (vs l) 3 : Int) = (l.length : Int) := by rw [HP.out, HLN.out]
        rw [hp3]
        clear hp3
        go_wp2
        go_ret
        exact ⟨by simp, G0⟩

set_option maxRecDepth 100000 in
theorem lifted (os : Os) (started : os.Started) (H : Type) (enc : TypeId × Value → H) :
    ReturnsInHanded {} Try.checked os 10 .any (Rows.fnChainPartsSpec.pre6 enc Try.prog Try.f10 Rows.fnChainPartsRow.domain false) (Rows.fnChainPartsSpec.post enc Try.prog Try.f10 false true false false) := by
  refine returnsInHanded_of_change (C := Try.checked) own started (by kernel_rfl) Try.func10
    (ChangeSpec.witness6 (enc := enc) (C := Try.checked) false ⟨#[], #[.slice none 0 0], []⟩ 8 (by kernel_rfl) (by kernel_rfl) (by kernel_rfl) (by kernel_rfl)) ?_
  intro W base args ds gs before hval0 hW hcnd _
  have hval : ∀ (j : Nat) t v, Try.f10.params[j]? = some t → args[j]? = some v → Value.okWide Try.prog W .any base t v := hval0
  have hW' := hW
  obtain ⟨p, q, hA0, hV, rfl, hfz, hnd⟩ := hW
  have hA : DataW.TrodAll enc Try.prog W 0 (fun _ => true) true Try.f10.params.toList args.toList ds p := hA0
  rw [Try.params10] at hA hval
  obtain ⟨v0, vs0, d0, ds0, p0, q0, hargs, rfl, rfl, h0, r0⟩ := trodAll_cons hA
  obtain ⟨rfl, rfl, rfl⟩ := trodAll_nil r0
  obtain rfl : args = #[v0] := by cases args; simp_all
  obtain ⟨rfl, rfl⟩ := trodVars_none hV
  have lt0 : ∀ x ∈ p0, x.block < W.heap.size := by obtain ⟨m, hm⟩ := h0; exact DataW.trod_lt m _ _ _ hm
  obtain ⟨a0, l0, k0, rfl, w0⟩ := bytes_of Try.underlying44 Try.underlying5 (by kernel_rfl) (hval 0 44 v0 rfl rfl) h0
  clear hA0 hval0
  refine (walk a0 l0 k0 W w0).mono fun e W' ⟨he, bel⟩ => ?_
  subst he
  exact ⟨_, rfl, _, _, _, [], _, [], hW', trodAll_mk1 (shut_bool Try.underlying4 _), (trodAll_cons_mk (Below.trod laidOut (by kernel_rfl) (of_decide_eq_true (by kernel_rfl)) h0 bel lt0) trodAll_mk0), rfl, bel.frame _, fun h => by cases h⟩

theorem over_row : Rows.fnChainPartsRow.holds Try.pinned (OpenSpec.ofChange Rows.fnChainPartsSpec) :=
  OpenClaim.holds_of_wide 10 Try.f10 rfl rfl rfl rfl rfl rfl rfl ⟨rfl, rfl, rfl, rfl, rfl⟩ rfl rfl rfl rfl rfl (by kernel_rfl) Try.func10 (by kernel_rfl)
    (of_decide_eq_true (by kernel_rfl)) (by unfold Func.isWrapper; first | (rw [if_pos (by decide +kernel)]; kernel_rfl) | (rw [if_neg (by decide +kernel)]; exact ⟨rfl, rfl⟩))
    (fun os started H enc _ => lifted os started H enc)

/-- The statement. -/
theorem proved : Rows.FnChainPartsSaid := over_row
end Go.Proofs.Ytbpdhilhohcinaa.fnChainParts
