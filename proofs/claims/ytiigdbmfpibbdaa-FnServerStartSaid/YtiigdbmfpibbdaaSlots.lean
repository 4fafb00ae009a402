/- Slots of a server, compared and marked by the laws' own functions. -/
import Derived.Test.YtiigdbmfpibbdaaKit
import Derived.Test.YtiigdbmfpibbdaaStampW
namespace Go.Proofs.Ytiigdbmfpibbdaa
open Go.RowKit Go.Deep
set_option linter.unusedVariables false

theorem infoSlot : (Try.prog.info? 101).map (fun i => (i.zero, i.size, i.bytes)) = some (some (.agg #[.int .i64 0, .int .i64 0]), 2, 16) := by kernel_rfl

theorem eqSlot_same (t s : Int) (w : World) :
    Calls Try.prog 119 #[.agg #[.int .i64 t, .int .i64 s], .agg #[.int .i64 t, .int .i64 s]] w fun e w' => e = .returned (.bool true) ∧ Below w.heap.size w w' := by
  have G := below_box2 w (.cells #[.int .i64 t, .int .i64 s] 101) (.cells #[.int .i64 t, .int .i64 s] 101)
  go_enter Try.func119, Try.ntmps119
  go_wp2
  go_ret
  exact ⟨rfl, G⟩

set_option maxHeartbeats 1000000 in
theorem eqSlotS_same (l : List (Int × Int)) (a a' : Option Addr) (cap cap' : Nat) (w : World) (hr : Reads w a l.length cap (stsC l)) (hs : Reads w a' l.length cap' (stsC l)) :
    Calls Try.prog 79 #[.slice a l.length cap, .slice a' l.length cap'] w fun e w' => e = .returned (.bool true) ∧ Below w.heap.size w w' := by
  have hn := hr.len
  go_enter Try.func79, Try.ntmps79
  go_wp2
  go_loopw [5] (fun i wr => ∃ k : Nat, k ≤ l.length ∧ i = .int .i64 k ∧ Below w.heap.size w wr) (fun i _ => l.length - (intOf i).toNat)
  case atStart => exact ⟨0, Nat.zero_le _, rfl, Below.refl _ _⟩
  case round =>
    obtain ⟨k, hk, rfl, hb⟩ := hrel
    by_cases hlt : k < l.length
    · have hr' := hr.below hb
      have hs' := hs.below hb
      obtain ⟨_, _, h3⟩ := hr'
      obtain ⟨_, _, h4⟩ := hs'
      obtain ⟨b, off, rfl, hbl, hcell⟩ := h3 (stsC_ne (by omega))
      obtain ⟨b', off', rfl, hbl', hcell'⟩ := h4 (stsC_ne (by omega))
      obtain ⟨g0, g1⟩ := stsC_get l k hlt
      have c0 := hcell _ _ g0
      have c1 := hcell _ _ g1
      have d0 := hcell' _ _ g0
      have d1 := hcell' _ _ g1
      rw [← Nat.add_assoc] at c1 d1
      have hi0 : (0 : Int) ≤ (k : Int) := by omega
      have hi1 : (k : Int) < (l.length : Int) := by omega
      clear hcell h3 hcell' h4 g0 g1
      go_wp2
      refine region_over (by kernel_rfl) (by kernel_rfl) ?_
      repeat (go_big_quiet_step (first | (go_at_call 119; exact quiet_over (eqSlot_same _ _ _))))
      refine wpQuiet_nil ?_
      intro w1 hb1
      have hbw := below_after hb hb1
      go_wp2
      go_roundw
      case rel => exact ⟨k + 1, by omega, by go_num, hbw⟩
      case measure => simp [intOf]; omega
    · obtain rfl : k = l.length := by omega
      go_wp2
      go_ret
      exact ⟨rfl, hb⟩

/-- What a list of slots holds that has been marked from k on. -/
def marksS (k : Int) : Nat → List (Int × Int)
  | 0 => []
  | n + 1 => (k, k + 1) :: marksS (k + 2) n
theorem marksS_len (k : Int) (n : Nat) : (marksS k n).length = n := by
  induction n generalizing k with
  | zero => rfl
  | succ n ih => simp [marksS, ih]
theorem marksS_get (k : Int) (n i : Nat) (h : i < n) : (marksS k n)[i]'(by rw [marksS_len]; exact h) = (k + 2 * (i : Int), k + 2 * (i : Int) + 1) := by
  induction n generalizing k i with
  | zero => omega
  | succ n ih =>
    cases i with
    | zero => simp [marksS]
    | succ i =>
      simp only [marksS, List.getElem_cons_succ]
      rw [ih (k + 2) i (by omega)]
      simp only [Prod.mk.injEq]
      push_cast
      omega
set_option maxHeartbeats 1000000 in
theorem heldSlotS_laws (n : Nat) (k : Int) (a : Option Addr) (cap : Nat) (w : World) (hr : Reads w a n cap (stsC (marksS k n))) (h0 : 0 ≤ k) (h1 : k ≤ 1000000000) (hn : n ≤ 1048577) :
    Calls Try.prog 81 #[.slice a n cap, .int .i64 k] w fun e w' => e = .returned (.int .i64 (k + 2 * (n : Int))) ∧ w = w' := by
  have hlen := marksS_len k n
  go_enter Try.func81, Try.ntmps81
  go_wp2
  go_loop [1, 5] (fun q i => ∃ j : Nat, j ≤ n ∧ i = .int .i64 j ∧ q = .int .i64 (k + 2 * (j : Int))) (fun _ i => n - (intOf i).toNat)
  case atStart => exact ⟨0, Nat.zero_le _, rfl, by simp⟩
  case round =>
    obtain ⟨j, hj, rfl, rfl⟩ := hrel
    by_cases hlt : j < n
    · have hr' := hr
      obtain ⟨_, _, h3⟩ := hr'
      obtain ⟨b, off, rfl, hbl, hcell⟩ := h3 (stsC_ne (by omega))
      obtain ⟨g0, g1⟩ := stsC_get (marksS k n) j (by omega)
      have c0 := hcell _ _ g0
      have c1 := hcell _ _ g1
      rw [marksS_get k n j hlt] at c0 c1
      simp only at c0 c1
      rw [← Nat.add_assoc] at c1
      clear hcell h3 g0 g1 hlen
      go_wp2
      go_round
      case rel => exact ⟨j + 1, by omega, by go_num, int_eq (by push_cast; omega)⟩
      case measure => simp [intOf]; omega
    · obtain rfl : j = n := by omega
      go_wp2
      go_ret
      exact ⟨rfl, rfl⟩
def MarkedS (N : Nat) (v : Value) (n : Nat) (k : Int) (w : World) (e : Ending) (w' : World) : Prop :=
  e = .returned (.int .i64 (k + 2 * (n : Int))) ∧ w'.ownsRow N 101 2 v n (stsC (marksS k n)) ∧ w.grownBy w' v.ownBlock
set_option maxHeartbeats 1000000 in
theorem markSlotS_laws (n : Nat) (k : Int) (a : Option Addr) (cap N : Nat) (xs : List Value) (w : World) (own : w.ownsRow N 101 2 (.slice a n cap) n xs) (h0 : 0 ≤ k) (h1 : k ≤ 1000000000) (hn : n ≤ 1048577) :
    Calls Try.prog 80 #[.slice a n cap, .int .i64 k] w (MarkedS N (.slice a n cap) n k w) := by
  rcases own.2 with ⟨hv, rfl⟩ | ⟨g, cap', cur, hv, hg, hh, hnc, hm, hs, ht⟩
  · simp only [Value.slice.injEq] at hv
    obtain ⟨rfl, -, rfl⟩ := hv
    go_enter Try.func80, Try.ntmps80
    go_wp2
    go_loop [1, 5] (fun q i => q = .int .i64 k ∧ i = .int .i64 0) (fun _ _ => 0)
    case atStart => exact ⟨rfl, rfl⟩
    case round =>
      obtain ⟨rfl, rfl⟩ := hrel
      go_wp2
      go_ret
      exact ⟨ret_int (by simp), World.ownsRow_nil _ _ _ _, only_refl _ _⟩
  · simp only [Value.slice.injEq] at hv
    obtain ⟨rfl, -, rfl⟩ := hv
    unfold maxLen at hm
    have hlen := marksS_len k n
    have row0 := row_of_cells hh (stsC (marksS k n))
    rw [hs] at row0
    go_enter Try.func80, Try.ntmps80
    go_wp2
    go_loopw [1, 5] (fun q i wr => ∃ j : Nat, j ≤ n ∧ i = .int .i64 j ∧ q = .int .i64 (k + 2 * (j : Int)) ∧ wr.rowIs g 101 (cap * 2) (fillF (stsC (marksS k n)) cur (j * 2)) ∧ w.grownBy wr (some g)) (fun _ i _ => n - (intOf i).toNat)
    case atStart => exact ⟨0, Nat.zero_le _, rfl, int_eq (by simp), by simpa using row0, only_refl _ _⟩
    case round =>
      obtain ⟨j, hj, rfl, rfl, row, hgr⟩ := hrel
      by_cases hlt : j < n
      · obtain ⟨g0, g1⟩ := stsC_get (marksS k n) j (by omega)
        rw [marksS_get k n j hlt] at g0 g1
        simp only at g0 g1
        have row3 := row_fill1 (row_fill1 row g0) g1
        have f0 := fun o => row.frozen o
        have x0 := row.cell (i := j * 2) (by omega)
        have x1 := row.cell (i := j * 2 + 1) (by omega)
        have hlt' : (j : Int) < (n : Int) := by omega
        have HW := Lib.hid row3
        clear row3 g0 g1 row hlen
        go_wp2
        go_roundw
        case rel =>
          refine ⟨j + 1, by omega, by go_num, int_eq (by push_cast; omega), ?_, ?_⟩
          · rw [show (j + 1) * 2 = j * 2 + 1 + 1 from by omega]
            exact HW.out
          · exact only_setCell (only_setCell hgr (Or.inl rfl) _) (Or.inl rfl) _
        case measure => simp [intOf]; omega
      · obtain rfl : j = n := by omega
        go_wp2
        go_ret
        exact ⟨rfl, row_owns2 row (by rw [stsC_len, hlen]) hg hnc (by unfold maxLen; omega), hgr⟩

end Go.Proofs.Ytiigdbmfpibbdaa
