/- At first each slot is owned by one server of each side. Of every input that the given statement lets in. -/
import Derived.Test.YtiigdbmfpibbdaaOpen
import Derived.Test.YtiigdbmfpibbdaaOwns
namespace Go.Proofs.Ytiigdbmfpibbdaa.fnServerStart
open Go.ChangeShapes Go.WideShapes Go.ChangeAt Go.RowKit
set_option linter.unusedVariables false
theorem liServer_len (site : Int) (a a' : Option Addr) (c c' : Nat) (w : World) (hr : Reads w a 3 c (stsC (startF site 3))) (hs : Reads w a' 3 c' (stsC (startF site 3))) :
    Calls Try.prog 28 #[.agg #[.int .i64 site, .bool true, .slice a 3 c, .slice none 0 0, .slice none 0 0, .slice none 0 0, .slice none 0 0], .agg #[.int .i64 site, .bool true, .slice a' 3 c', .slice none 0 0, .slice none 0 0, .slice none 0 0, .slice none 0 0]] w fun e w' => e = .returned (.bool true) ∧ Below w.heap.size w w' := by
  have h := liServer_same site true (startF site 3) a a' c c' w (by rw [startF_len]; exact hr) (by rw [startF_len]; exact hs)
  rwa [startF_len] at h
theorem reads_noS (w : World) : Reads w none ([] : List (Int × Int)).length 0 (stsC []) := ⟨Nat.le_refl _, by simp, fun h => absurd rfl h⟩
set_option maxRecDepth 100000 in
set_option maxHeartbeats 2000000 in
theorem walk (a0 : Option Addr) (l0 k0 : Nat) (w : World) (w0 : BytesIn w a0 l0 k0) :
    Calls Try.prog 5 #[.slice a0 l0 k0] w fun e w' => e = .returned (.bool true) ∧ Below w.heap.size w w' := by
  by_cases hbig : 1048576 < l0
  · have hbig' : (1048576 : Int) < (l0 : Int) := by omega
    go_enter Try.func5, Try.ntmps5
    go_wp2
    go_ret
    exact ⟨rfl, Below.refl _ _⟩
  · have hbig' : (l0 : Int) ≤ (1048576 : Int) := by omega
    have hfd : ∀ (p : Option Addr) (c : Nat) (W : World), (Instr.field 46 (.agg #[.int .i64 0, .bool true, .slice p 3 c, .slice none 0 0, .slice none 0 0, .slice none 0 0, .slice none 0 0]) 3).run Try.prog W = .ok (.slice none 0 0) W := fun _ _ _ => by kernel_rfl
    go_enter Try.func5, Try.ntmps5
    go_wp2_with fail
    refine (DrawServerStart_any _ _ _ _ w0).mono ?_
    rintro e w1 ⟨x, rfl, hb1⟩
    have G0 := hb1
    rcases hin : inB x 0 3 with _ | _
    · go_wp2_with fail
      refine (ServerStart_impl_no x _ hin).mono ?_
      rintro e w2 ⟨rfl, hb2⟩
      have G0 := below_after G0 hb2
      go_wp2_with fail
      refine (ServerStart_spec_no x _ hin).mono ?_
      rintro e w3 ⟨rfl, hb3⟩
      have G0 := below_after G0 hb3
      go_wp2_with fail
      refine (liServer_same 0 false [] none none 0 0 _ (reads_noS _) (reads_noS _)).mono ?_
      rintro e w4 ⟨rfl, hb4⟩
      have G0 := below_after G0 hb4
      go_wp2
      go_loopw [2, 4, 5, 6, 7] (fun _ i _ _ _ wr => ∃ k : Nat, k ≤ 6 ∧ i = .int .i64 k ∧ Below w.heap.size w wr) (fun _ i _ _ _ _ => 6 - (intOf i).toNat)
      case atStart => exact ⟨0, by omega, rfl, G0⟩
      case round =>
        obtain ⟨k, hk, rfl, hBk⟩ := hrel
        by_cases hlt : k < 6
        · have hki : (k : Int) < 6 := by omega
          have hik : inB (k : Int) 0 5 = true := inB_iff.2 ⟨by omega, by omega⟩
          go_wp2
          go_loopw [2, 5, 6, 7] (fun _ i _ _ wr => ∃ s : Nat, s ≤ 2 ∧ i = .int .i64 s ∧ Below w.heap.size w wr) (fun _ i _ _ _ => 2 - (intOf i).toNat)
          case atStart => exact ⟨0, by omega, rfl, hBk⟩
          case round =>
            obtain ⟨s, hs, rfl, hBs⟩ := hrel
            by_cases hls : s < 2
            · have hsi : (s : Int) < 2 := by omega
              have hin0 : inB (2 * (s : Int)) 0 3 = true := inB_iff.2 ⟨by omega, by omega⟩
              have hin1 : inB (2 * (s : Int) + 1) 0 3 = true := inB_iff.2 ⟨by omega, by omega⟩
              have HT := Lib.hid (ownsS_turn (site := 2 * (s : Int)) (key := (k : Int)))
              rcases ho : ownsS (2 * (s : Int)) (k : Int) with _ | _ <;> (
                have ho2 := HT.out
                rw [ho] at ho2
                simp only [Bool.not_false, Bool.not_true] at ho2
                go_wp2_with fail
                refine (ServerStart_impl (2 * (s : Int)) _ hin0).mono ?_
                rintro e w2 ⟨p2, c2, rfl, own2, hb2⟩
                have G2 := below_after hBs hb2
                go_wp2_with fail
                refine (bool_is ho (ServerOwns_start (2 * (s : Int)) (k : Int) p2 c2 _ (Reads.own own2) hin0 hik)).mono ?_
                rintro e w3 ⟨rfl, hb3⟩
                have G3 := below_after G2 hb3
                go_wp2_with fail
                refine (ServerStart_impl (2 * (s : Int) + 1) _ hin1).mono ?_
                rintro e w4 ⟨p4, c4, rfl, own4, hb4⟩
                have G4 := below_after G3 hb4
                go_wp2_with fail
                refine (bool_is ho2 (ServerOwns_start (2 * (s : Int) + 1) (k : Int) p4 c4 _ (Reads.own own4) hin1 hik)).mono ?_
                rintro e w5 ⟨rfl, hb5⟩
                have G5 := below_after G4 hb5
                go_wp2
                go_roundw
                case rel => exact ⟨s + 1, by omega, by go_num, G5⟩
                case measure => simp [intOf]; omega)
            · obtain rfl : s = 2 := by omega
              go_wp2
              go_roundw
              case rel => exact ⟨k + 1, by omega, by go_num, hBs⟩
              case measure => simp [intOf]; omega
        · obtain rfl : k = 6 := by omega
          go_wp2_with fail
          refine (ServerStart_impl 0 _ (by decide)).mono ?_
          rintro e w6 ⟨p6, c6, rfl, own6, hb6⟩
          go_wp2
          go_ret
          exact ⟨rfl, below_after hBk hb6⟩
    · go_wp2_with fail
      refine (ServerStart_impl x _ hin).mono ?_
      rintro e w2 ⟨p2, c2, rfl, own2, hb2⟩
      have G0 := below_after G0 hb2
      go_wp2_with fail
      refine (ServerStart_spec x _ hin).mono ?_
      rintro e w3 ⟨p3, c3, rfl, own3, hb3⟩
      have own2 := own_below own2 hb3
      have G0 := below_after G0 hb3
      go_wp2_with fail
      refine (liServer_len x p2 p3 c2 c3 _ (Reads.own own2) (Reads.own own3)).mono ?_
      rintro e w4 ⟨rfl, hb4⟩
      have G0 := below_after G0 hb4
      go_wp2
      go_loopw [2, 4, 5, 6, 7] (fun _ i _ _ _ wr => ∃ k : Nat, k ≤ 6 ∧ i = .int .i64 k ∧ Below w.heap.size w wr) (fun _ i _ _ _ _ => 6 - (intOf i).toNat)
      case atStart => exact ⟨0, by omega, rfl, G0⟩
      case round =>
        obtain ⟨k, hk, rfl, hBk⟩ := hrel
        by_cases hlt : k < 6
        · have hki : (k : Int) < 6 := by omega
          have hik : inB (k : Int) 0 5 = true := inB_iff.2 ⟨by omega, by omega⟩
          go_wp2
          go_loopw [2, 5, 6, 7] (fun _ i _ _ wr => ∃ s : Nat, s ≤ 2 ∧ i = .int .i64 s ∧ Below w.heap.size w wr) (fun _ i _ _ _ => 2 - (intOf i).toNat)
          case atStart => exact ⟨0, by omega, rfl, hBk⟩
          case round =>
            obtain ⟨s, hs, rfl, hBs⟩ := hrel
            by_cases hls : s < 2
            · have hsi : (s : Int) < 2 := by omega
              have hin0 : inB (2 * (s : Int)) 0 3 = true := inB_iff.2 ⟨by omega, by omega⟩
              have hin1 : inB (2 * (s : Int) + 1) 0 3 = true := inB_iff.2 ⟨by omega, by omega⟩
              have HT := Lib.hid (ownsS_turn (site := 2 * (s : Int)) (key := (k : Int)))
              rcases ho : ownsS (2 * (s : Int)) (k : Int) with _ | _ <;> (
                have ho2 := HT.out
                rw [ho] at ho2
                simp only [Bool.not_false, Bool.not_true] at ho2
                go_wp2_with fail
                refine (ServerStart_impl (2 * (s : Int)) _ hin0).mono ?_
                rintro e w2 ⟨p2, c2, rfl, own2, hb2⟩
                have G2 := below_after hBs hb2
                go_wp2_with fail
                refine (bool_is ho (ServerOwns_start (2 * (s : Int)) (k : Int) p2 c2 _ (Reads.own own2) hin0 hik)).mono ?_
                rintro e w3 ⟨rfl, hb3⟩
                have G3 := below_after G2 hb3
                go_wp2_with fail
                refine (ServerStart_impl (2 * (s : Int) + 1) _ hin1).mono ?_
                rintro e w4 ⟨p4, c4, rfl, own4, hb4⟩
                have G4 := below_after G3 hb4
                go_wp2_with fail
                refine (bool_is ho2 (ServerOwns_start (2 * (s : Int) + 1) (k : Int) p4 c4 _ (Reads.own own4) hin1 hik)).mono ?_
                rintro e w5 ⟨rfl, hb5⟩
                have G5 := below_after G4 hb5
                go_wp2
                go_roundw
                case rel => exact ⟨s + 1, by omega, by go_num, G5⟩
                case measure => simp [intOf]; omega)
            · obtain rfl : s = 2 := by omega
              go_wp2
              go_roundw
              case rel => exact ⟨k + 1, by omega, by go_num, hBs⟩
              case measure => simp [intOf]; omega
        · obtain rfl : k = 6 := by omega
          go_wp2_with fail
          refine (ServerStart_impl 0 _ (by decide)).mono ?_
          rintro e w6 ⟨p6, c6, rfl, own6, hb6⟩
          go_wp2
          go_ret
          exact ⟨rfl, below_after hBk hb6⟩

set_option maxRecDepth 100000 in
theorem lifted (os : Os) (started : os.Started) (H : Type) (enc : TypeId × Value → H) :
    ReturnsInHanded {} Try.checked os 5 .any (Rows.fnServerStartSpec.pre6 enc Try.prog Try.f5 Rows.fnServerStartRow.domain false) (Rows.fnServerStartSpec.post enc Try.prog Try.f5 false true false false) := by
  refine returnsInHanded_of_change (C := Try.checked) own started (by kernel_rfl) Try.func5
    (ChangeSpec.witness6 (enc := enc) (C := Try.checked) false ⟨#[], #[.slice none 0 0], []⟩ 8 (by kernel_rfl) (by kernel_rfl) (by kernel_rfl) (by kernel_rfl)) ?_
  intro W base args ds gs before hval0 hW hcnd _
  have hval : ∀ (j : Nat) t v, Try.f5.params[j]? = some t → args[j]? = some v → Value.okWide Try.prog W .any base t v := hval0
  have hW' := hW
  obtain ⟨p, q, hA0, hV, rfl, hfz, hnd⟩ := hW
  have hA : DataW.TrodAll enc Try.prog W 0 (fun _ => true) true Try.f5.params.toList args.toList ds p := hA0
  rw [Try.params5] at hA hval
  obtain ⟨v0, vs0, d0, ds0, p0, q0, hargs, rfl, rfl, h0, r0⟩ := trodAll_cons hA
  obtain ⟨rfl, rfl, rfl⟩ := trodAll_nil r0
  obtain rfl : args = #[v0] := by cases args; simp_all
  obtain ⟨rfl, rfl⟩ := trodVars_none hV
  have lt0 : ∀ x ∈ p0, x.block < W.heap.size := by obtain ⟨m, hm⟩ := h0; exact DataW.trod_lt m _ _ _ hm
  obtain ⟨a0, l0, k0, rfl, w0⟩ := bytes_of Try.underlying22 Try.underlying5 (by kernel_rfl) (hval 0 22 v0 rfl rfl) h0
  clear hA0 hval0
  refine (walk a0 l0 k0 W w0).mono fun e W' ⟨he, bel⟩ => ?_
  subst he
  exact ⟨_, rfl, _, _, _, [], _, [], hW', trodAll_mk1 (shut_bool Try.underlying4 _), (trodAll_cons_mk (Below.trod laidOut (by kernel_rfl) (of_decide_eq_true (by kernel_rfl)) h0 bel lt0) trodAll_mk0), rfl, bel.frame _, fun h => by cases h⟩

theorem over_row : Rows.fnServerStartRow.holds Try.pinned (OpenSpec.ofChange Rows.fnServerStartSpec) :=
  OpenClaim.holds_of_wide 5 Try.f5 rfl rfl rfl rfl rfl rfl rfl ⟨rfl, rfl, rfl, rfl, rfl⟩ rfl rfl rfl rfl rfl (by kernel_rfl) Try.func5 (by kernel_rfl)
    (of_decide_eq_true (by kernel_rfl)) (by unfold Func.isWrapper; first | (rw [if_pos (by decide +kernel)]; kernel_rfl) | (rw [if_neg (by decide +kernel)]; exact ⟨rfl, rfl⟩))
    (fun os started H enc _ => lifted os started H enc)

/-- The statement. -/
theorem proved : Rows.FnServerStartSaid := over_row
end Go.Proofs.Ytiigdbmfpibbdaa.fnServerStart
