/- The laws' own comparisons, of lists that are the same. -/
import Derived.Test.YtbpdhilhohcinaaDepsP
namespace Go.Proofs.Ytbpdhilhohcinaa
open Go.RowKit Go.Deep
set_option linter.unusedVariables false

set_option maxHeartbeats 1000000 in
theorem liDeps_same (l : List Dp) (a a' : Option Addr) (cap cap' : Nat) (w : World) (hr : Reads w a l.length cap (dpsC l)) (hs : Reads w a' l.length cap' (dpsC l)) :
    Calls Try.prog 102 #[.slice a l.length cap, .slice a' l.length cap'] w fun e w' => e = .returned (.bool true) ∧ Below w.heap.size w w' := by
  have hn := hr.len
  go_enter Try.func102, Try.ntmps102
  go_wp2
  go_loopw [5] (fun i wr => ∃ k : Nat, k ≤ l.length ∧ i = .int .i64 k ∧ Below w.heap.size w wr) (fun i _ => l.length - (intOf i).toNat)
  case atStart => exact ⟨0, Nat.zero_le _, rfl, Below.refl _ _⟩
  case round =>
    obtain ⟨k, hk, rfl, hb⟩ := hrel
    by_cases hlt : k < l.length
    · have hr' := hr.below hb
      have hs' := hs.below hb
      obtain ⟨_, _, h3⟩ := hr'
      obtain ⟨_, _, h4⟩ := hs'
      obtain ⟨b, off, rfl, hbl, hcell⟩ := h3 (dpsC_ne (by omega))
      obtain ⟨b', off', rfl, hbl', hcell'⟩ := h4 (dpsC_ne (by omega))
      obtain ⟨g0, g1, g2⟩ := dpsC_get l k hlt
      have c0 := hcell _ _ g0
      have c1 := hcell _ _ g1
      have c2 := hcell _ _ g2
      have d0 := hcell' _ _ g0
      have d1 := hcell' _ _ g1
      have d2 := hcell' _ _ g2
      rw [← Nat.add_assoc] at c1 c2 d1 d2
      have hi0 : (0 : Int) ≤ (k : Int) := by omega
      have hi1 : (k : Int) < (l.length : Int) := by omega
      clear hcell h3 hcell' h4 g0 g1 g2
      go_wp2
      refine region_over (by kernel_rfl) (by kernel_rfl) ?_
      repeat (go_big_quiet_step (fail))
      refine wpQuiet_nil ?_
      intro w1 hb1
      have hbw := below_after hb hb1
      go_wp2
      go_roundw
      case rel => exact ⟨k + 1, by omega, by go_num, hbw⟩
      case measure => simp [intOf]; omega
    · obtain rfl : k = l.length := by omega
      go_wp2
      go_ret
      exact ⟨rfl, hb⟩

end Go.Proofs.Ytbpdhilhohcinaa
