/- Dependency lists: the program's functions and the reference's give what the plain functions give. -/
import Derived.Test.YthciikogogkfcaaDepsP
namespace Go.Proofs.Ythciikogogkfcaa
open Go.RowKit Go.Deep
set_option linter.unusedVariables false

theorem infoDep : (Try.prog.info? 32).map (fun i => (i.zero, i.size, i.bytes)) = some (some (.agg #[.int .i64 0, .int .i64 0, .int .i64 0]), 3, 24) := by kernel_rfl
/-- A bool comes back, and nothing old has turned. -/
def Says (b : Bool) (w : World) (e : Ending) (w' : World) : Prop := e = .returned (.bool b) ∧ Below w.heap.size w w'
/-- A list in memory of the callee's own comes back, and nothing old has turned. -/
def OwnDeps (l : List Dp) (w : World) (e : Ending) (w' : World) : Prop := ∃ v, e = .returned v ∧ w'.ownsRow w.heap.size 32 3 v l.length (dpsC l) ∧ Below w.heap.size w w'

set_option maxHeartbeats 1000000 in
theorem depsOk_impl (l : List Dp) (a : Option Addr) (cap : Nat) (w : World) (hr : Reads w a l.length cap (dpsC l)) (hl : l.length ≤ 1048577) :
    Calls Try.prog 51 #[.slice a l.length cap] w (Says (depsOkB l) w) := by
  go_enter Try.func51, Try.ntmps51
  go_wp2
  go_loopw [3, 8] (fun t i wr => ∃ k : Nat, k ≤ l.length ∧ i = .int .i64 k ∧ depsOkB (l.take k) = true ∧ t = .int .i64 (lastK (-1) (l.take k)) ∧ Below w.heap.size w wr) (fun _ i _ => l.length - (intOf i).toNat)
  case atStart => exact ⟨0, Nat.zero_le _, rfl, rfl, rfl, Below.refl _ _⟩
  case round =>
    obtain ⟨k, hk, rfl, hok, rfl, hBw⟩ := hrel
    have hbd := depsOk_bd hok
    obtain ⟨hb0, hb1⟩ := hbd
    by_cases hlt : k < l.length
    · have hr' := hr.below hBw
      obtain ⟨_, _, h3⟩ := hr'
      obtain ⟨b, off, rfl, hbl, hcell⟩ := h3 (dpsC_ne (by omega))
      obtain ⟨g0, g1, g2⟩ := dpsC_get l k hlt
      have c0 := hcell _ _ g0
      have c1 := hcell _ _ g1
      have c2 := hcell _ _ g2
      rw [← Nat.add_assoc] at c1 c2
      have HE := Lib.hid (depsOk_take l k hlt)
      have HC := Lib.hid (dp_cond hb0 l[k])
      have B1 := Blk.new wr #[.int .i64 l[k].1, .int .i64 l[k].2.1, .int .i64 l[k].2.2] 32
      have G1 := below_alloc hBw (.cells #[.int .i64 l[k].1, .int .i64 l[k].2.1, .int .i64 l[k].2.2] 32)
      clear hcell g0 g1 g2 h3
      have HO := Lib.hid hok
      clear hok
      by_cases hin : inB l[k].1 (lastK (-1) (l.take k) + 1) 5 = true
      · go_wp2_with fail
        refine (in_impl _ _ _ _).mono ?_
        rintro e w' ⟨rfl, rfl⟩
        go_wp2_with fail
        refine (stampOk_impl _ _ _).mono ?_
        rintro e w2 ⟨rfl, hb2⟩
        have G2 := below_after G1 hb2
        have B1 := B1.below hb2 B1.lt
        obtain ⟨k0, k1, k2, kf, kl⟩ := B1.three
        by_cases hs : stampOkB l[k].2.1 l[k].2.2 = true
        · go_wp2
          go_roundw
          case rel => exact ⟨k + 1, by omega, by go_num, by rw [HE.out.1, HO.out, HC.out, hin, hs]; rfl, by rw [HE.out.2], G2⟩
          case measure => simp [intOf]; omega
        · have hs' : stampOkB l[k].2.1 l[k].2.2 = false := by simpa using hs
          have hbad := depsOk_bad l (k + 1) (by rw [HE.out.1, HO.out, HC.out, hin, hs']; rfl)
          go_wp2
          go_ret
          exact ⟨by rw [hbad]; rfl, G2⟩
      · have hin' : inB l[k].1 (lastK (-1) (l.take k) + 1) 5 = false := by simpa using hin
        have hbad := depsOk_bad l (k + 1) (by rw [HE.out.1, HO.out, HC.out, hin']; rfl)
        go_wp2_with fail
        refine (in_impl _ _ _ _).mono ?_
        rintro e w' ⟨rfl, rfl⟩
        go_wp2
        go_ret
        exact ⟨by rw [hbad]; rfl, G1⟩
    · obtain rfl : k = l.length := by omega
      rw [List.take_length] at hok
      go_wp2
      go_ret
      exact ⟨by rw [hok]; rfl, hBw⟩

set_option maxHeartbeats 1000000 in
theorem depsOk_spec (l : List Dp) (a : Option Addr) (cap : Nat) (w : World) (hr : Reads w a l.length cap (dpsC l)) (hl : l.length ≤ 1048577) :
    Calls Try.prog 55 #[.slice a l.length cap] w (Says (depsOkB l) w) := by
  go_enter Try.func55, Try.ntmps55
  go_wp2
  go_loopw [3] (fun i wr => ∃ k : Nat, k ≤ l.length ∧ i = .int .i64 k ∧ depsOkB (l.take k) = true ∧ Below w.heap.size w wr) (fun i _ => l.length - (intOf i).toNat)
  case atStart => exact ⟨0, Nat.zero_le _, rfl, rfl, Below.refl _ _⟩
  case round =>
    obtain ⟨k, hk, rfl, hok, hBw⟩ := hrel
    by_cases hlt : k < l.length
    · have hr' := hr.below hBw
      obtain ⟨_, _, h3⟩ := hr'
      obtain ⟨b, off, rfl, hbl, hcell⟩ := h3 (dpsC_ne (by omega))
      obtain ⟨g0, g1, g2⟩ := dpsC_get l k hlt
      have c0 := hcell _ _ g0
      have c1 := hcell _ _ g1
      have c2 := hcell _ _ g2
      rw [← Nat.add_assoc] at c1 c2
      have HE := Lib.hid (depsOk_take l k hlt)
      have HC : Hid (dpOk l[k] = (inB l[k].1 0 5 && stampOkB l[k].2.1 l[k].2.2)) := rfl
      have hpk : ∀ hp : 0 < k, lastK (-1) (l.take k) = (l[k - 1]'(by omega)).1 := fun hp => lastK_prev l k hlt hp
      have hp0 : k = 0 → lastK (-1) (l.take k) = -1 := fun h => by subst h; rfl
      have HP := Lib.hid hpk
      have HZ := Lib.hid hp0
      have HO := Lib.hid hok
      have hi0 : (0 : Int) ≤ (k : Int) := by omega
      have hi1 : (k : Int) < (l.length : Int) := by omega
      have hprev : ∀ hp : 0 < k, wr.cell? ⟨b, off + (k - 1) * 3, none⟩ = some (.int .i64 (l[k - 1]'(by omega)).1) := fun hp => hcell _ _ (dpsC_get l (k - 1) (by omega)).1
      have HV := Lib.hid hprev
      clear hcell g0 g1 g2 h3 hpk hp0 hok hprev
      rcases hin : inB l[k].1 0 5 with _ | _
      · have hbad := depsOk_bad l (k + 1) (by rw [HE.out.1, HO.out, HC.out, hin]; simp)
        go_wp2
        refine region_over (by kernel_rfl) (by kernel_rfl) ?_
        repeat (go_big_quiet_step (first | (go_at_call 52; exact quiet_over_same (bool_is hin (isKey_spec _ _))) | (go_at_call 53; exact quiet_over (bool_is hs (stampOk_spec _ _ _)))))
        refine wpQuiet_nil ?_
        intro w2 hb2
        have G2 := below_after hBw hb2
        go_wp2
        go_ret
        exact ⟨by rw [hbad]; rfl, G2⟩
      rcases hs : stampOkB l[k].2.1 l[k].2.2 with _ | _
      · have hbad := depsOk_bad l (k + 1) (by rw [HE.out.1, HO.out, HC.out, hin, hs]; simp)
        go_wp2
        refine region_over (by kernel_rfl) (by kernel_rfl) ?_
        repeat (go_big_quiet_step (first | (go_at_call 52; exact quiet_over_same (bool_is hin (isKey_spec _ _))) | (go_at_call 53; exact quiet_over (bool_is hs (stampOk_spec _ _ _)))))
        refine wpQuiet_nil ?_
        intro w2 hb2
        have G2 := below_after hBw hb2
        go_wp2
        go_ret
        exact ⟨by rw [hbad]; rfl, G2⟩
      by_cases h0 : 0 < k
      · have hprev := HV.out h0
        have h00 : (0 : Int) < (k : Int) := by omega
        have hj0 : (0 : Int) ≤ (k : Int) - 1 := by omega
        have hj1 : (k : Int) - 1 < (l.length : Int) := by omega
        by_cases hlt2 : (l[k - 1]'(by omega)).1 < l[k].1
        · have HL : Hid (decide (lastK (-1) (l.take k) < l[k].1) = true) := by show _ = true; rw [HP.out h0]; simpa using hlt2
          go_wp2
          refine region_over (by kernel_rfl) (by kernel_rfl) ?_
          repeat (go_big_quiet_step (first | (go_at_call 52; exact quiet_over_same (bool_is hin (isKey_spec _ _))) | (go_at_call 53; exact quiet_over (bool_is hs (stampOk_spec _ _ _)))))
          refine wpQuiet_nil ?_
          intro w2 hb2
          have G2 := below_after hBw hb2
          go_wp2
          go_roundw
          case rel => exact ⟨k + 1, by omega, by go_num, by rw [HE.out.1, HO.out, HC.out, HL.out, hin, hs]; rfl, G2⟩
          case measure => simp [intOf]; omega
        · have hle2 : l[k].1 ≤ (l[k - 1]'(by omega)).1 := by omega
          have hbad := depsOk_bad l (k + 1) (by rw [HE.out.1, HO.out, HP.out h0]; simp [hlt2])
          clear hlt2
          go_wp2
          refine region_over (by kernel_rfl) (by kernel_rfl) ?_
          repeat (go_big_quiet_step (first | (go_at_call 52; exact quiet_over_same (bool_is hin (isKey_spec _ _))) | (go_at_call 53; exact quiet_over (bool_is hs (stampOk_spec _ _ _)))))
          refine wpQuiet_nil ?_
          intro w2 hb2
          have G2 := below_after hBw hb2
          go_wp2
          go_ret
          exact ⟨by rw [hbad]; rfl, G2⟩
      · have h00 : (k : Int) ≤ 0 := by omega
        have HL : Hid (decide (lastK (-1) (l.take k) < l[k].1) = true) := by show _ = true; rw [HZ.out (by omega)]; have := inB_iff.1 hin; simp; omega
        go_wp2
        refine region_over (by kernel_rfl) (by kernel_rfl) ?_
        repeat (go_big_quiet_step (first | (go_at_call 52; exact quiet_over_same (bool_is hin (isKey_spec _ _))) | (go_at_call 53; exact quiet_over (bool_is hs (stampOk_spec _ _ _)))))
        refine wpQuiet_nil ?_
        intro w2 hb2
        have G2 := below_after hBw hb2
        go_wp2
        go_roundw
        case rel => exact ⟨k + 1, by omega, by go_num, by rw [HE.out.1, HO.out, HC.out, HL.out, hin, hs]; rfl, G2⟩
        case measure => simp [intOf]; omega
    · obtain rfl : k = l.length := by omega
      rw [List.take_length] at hok
      go_wp2
      go_ret
      exact ⟨by rw [hok]; rfl, hBw⟩

end Go.Proofs.Ythciikogogkfcaa
