/- Slots of a server, compared and marked by the laws' own functions. -/
import Derived.Test.YthciikogogkfcaaKit
import Derived.Test.YthciikogogkfcaaStampW
namespace Go.Proofs.Ythciikogogkfcaa
open Go.RowKit Go.Deep
set_option linter.unusedVariables false

theorem infoSlot : (Try.prog.info? 101).map (fun i => (i.zero, i.size, i.bytes)) = some (some (.agg #[.int .i64 0, .int .i64 0]), 2, 16) := by kernel_rfl

theorem eqSlot_same (t s : Int) (w : World) :
    Calls Try.prog 125 #[.agg #[.int .i64 t, .int .i64 s], .agg #[.int .i64 t, .int .i64 s]] w fun e w' => e = .returned (.bool true) ∧ Below w.heap.size w w' := by
  have G := below_box2 w (.cells #[.int .i64 t, .int .i64 s] 101) (.cells #[.int .i64 t, .int .i64 s] 101)
  go_enter Try.func125, Try.ntmps125
  go_wp2
  go_ret
  exact ⟨rfl, G⟩

set_option maxHeartbeats 1000000 in
theorem eqSlotS_same (l : List (Int × Int)) (a a' : Option Addr) (cap cap' : Nat) (w : World) (hr : Reads w a l.length cap (stsC l)) (hs : Reads w a' l.length cap' (stsC l)) :
    Calls Try.prog 83 #[.slice a l.length cap, .slice a' l.length cap'] w fun e w' => e = .returned (.bool true) ∧ Below w.heap.size w w' := by
  have hn := hr.len
  go_enter Try.func83, Try.ntmps83
  go_wp2
  go_loopw [5] (fun i wr => ∃ k : Nat, k ≤ l.length ∧ i = .int .i64 k ∧ Below w.heap.size w wr) (fun i _ => l.length - (intOf i).toNat)
  case atStart => exact ⟨0, Nat.zero_le _, rfl, Below.refl _ _⟩
  case round =>
    obtain ⟨k, hk, rfl, hb⟩ := hrel
    by_cases hlt : k < l.length
    · have hr' := hr.below hb
      have hs' := hs.below hb
      obtain ⟨_, _, h3⟩ := hr'
      obtain ⟨_, _, h4⟩ := hs'
      obtain ⟨b, off, rfl, hbl, hcell⟩ := h3 (stsC_ne (by omega))
      obtain ⟨b', off', rfl, hbl', hcell'⟩ := h4 (stsC_ne (by omega))
      obtain ⟨g0, g1⟩ := stsC_get l k hlt
      have c0 := hcell _ _ g0
      have c1 := hcell _ _ g1
      have d0 := hcell' _ _ g0
      have d1 := hcell' _ _ g1
      rw [← Nat.add_assoc] at c1 d1
      have hi0 : (0 : Int) ≤ (k : Int) := by omega
      have hi1 : (k : Int) < (l.length : Int) := by omega
      clear hcell h3 hcell' h4 g0 g1
      go_wp2
      refine region_over (by kernel_rfl) (by kernel_rfl) ?_
      repeat (go_big_quiet_step (first | (go_at_call 125; exact quiet_over (eqSlot_same _ _ _))))
      refine wpQuiet_nil ?_
      intro w1 hb1
      have hbw := below_after hb hb1
      go_wp2
      go_roundw
      case rel => exact ⟨k + 1, by omega, by go_num, hbw⟩
      case measure => simp [intOf]; omega
    · obtain rfl : k = l.length := by omega
      go_wp2
      go_ret
      exact ⟨rfl, hb⟩

/-- What a list of slots holds that has been marked from k on. -/
def marksS (k : Int) : Nat → List (Int × Int)
  | 0 => []
  | n + 1 => (k, k + 1) :: marksS (k + 2) n
theorem marksS_len (k : Int) (n : Nat) : (marksS k n).length = n := by
  induction n generalizing k with
  | zero => rfl
  | succ n ih => simp [marksS, ih]
theorem marksS_get (k : Int) (n i : Nat) (h : i < n) : (marksS k n)[i]'(by rw [marksS_len]; exact h) = (k + 2 * (i : Int), k + 2 * (i : Int) + 1) := by
  induction n generalizing k i with
  | zero => omega
  | succ n ih =>
    cases i with
    | zero => simp [marksS]
    | succ i =>
      simp only [marksS, List.getElem_cons_succ]
      rw [ih (k + 2) i (by omega)]
      simp only [Prod.mk.injEq]
      push_cast
      omega
def MarkedS (N : Nat) (v : Value) (n : Nat) (k : Int) (w : World) (e : Ending) (w' : World) : Prop :=
  e = .returned (.int .i64 (k + 2 * (n : Int))) ∧ w'.ownsRow N 101 2 v n (stsC (marksS k n)) ∧ w.grownBy w' v.ownBlock
end Go.Proofs.Ythciikogogkfcaa
