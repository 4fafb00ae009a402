/- The contracts of the stamps' functions: each returns what the plain function of the same name gives, and makes new memory alone. -/
import Derived.Test.YtdheoaefmacamaaRows
import Derived.WalkKit
import Derived.WalkSpells
import Derived.WalkLawsBesides
import Derived.BigQuiet
import Derived.Test.YtdheoaefmacamaaKit
namespace Go.Proofs.Ytdheoaefmacamaa
open Go.RowKit
set_option linter.unusedVariables false

def inB (n lo hi : Int) : Bool := decide (lo ≤ n ∧ n ≤ hi)
def stampOkB (t s : Int) : Bool := inB t 1 9999 && inB s 0 3
def stampLessB (t s u v : Int) : Bool := decide (t < u) || (decide (t = u) && decide (s < v))
def siteSideI (n : Int) : Int := if inB n 0 3 then n / 2 else -1
def verSlotI (n : Int) : Int := if inB n 0 5 then (n * 3) / 6 else -1
theorem inB_iff {n lo hi : Int} : inB n lo hi = true ↔ lo ≤ n ∧ n ≤ hi := by simp [inB]
theorem inB_not {n lo hi : Int} : inB n lo hi = false ↔ ¬ (lo ≤ n ∧ n ≤ hi) := by simp [inB]

set_option maxHeartbeats 400000 in
theorem in_impl (n lo hi : Int) (w : World) :
    Calls Try.prog 48 #[.int .i64 n, .int .i64 lo, .int .i64 hi] w fun e w' => e = .returned (.bool (inB n lo hi)) ∧ w = w' := by
  by_cases h1 : lo ≤ n <;> by_cases h2 : n ≤ hi
  all_goals
    go_enter Try.func48, Try.ntmps48
    go_wp2
    go_ret
    exact ⟨by simp [inB, h1, h2], rfl⟩
set_option maxHeartbeats 400000 in
theorem isSite_impl (n : Int) (w : World) :
    Calls Try.prog 64 #[.int .i64 n] w fun e w' => e = .returned (.bool (inB n 0 3)) ∧ w = w' := by
  go_enter Try.func64, Try.ntmps64
  go_wp2_with (go_at_call 48; refine (in_impl _ _ _ _).mono ?_; rintro e w' ⟨rfl, rfl⟩)
  go_ret
  exact ⟨rfl, rfl⟩
set_option maxHeartbeats 400000 in
theorem isKey_impl (n : Int) (w : World) :
    Calls Try.prog 32 #[.int .i64 n] w fun e w' => e = .returned (.bool (inB n 0 5)) ∧ w = w' := by
  go_enter Try.func32, Try.ntmps32
  go_wp2_with (go_at_call 48; refine (in_impl _ _ _ _).mono ?_; rintro e w' ⟨rfl, rfl⟩)
  go_ret
  exact ⟨rfl, rfl⟩
set_option maxHeartbeats 400000 in
theorem stampOk_impl (t s : Int) (w : World) :
    Calls Try.prog 47 #[.agg #[.int .i64 t, .int .i64 s]] w fun e w' => e = .returned (.bool (stampOkB t s)) ∧ Below w.heap.size w w' := by
  go_enter Try.func47, Try.ntmps47
  go_wp2_with (first | (go_at_call 48; refine (in_impl _ _ _ _).mono ?_; rintro e w' ⟨rfl, rfl⟩) | (go_at_call 64; refine (isSite_impl _ _).mono ?_; rintro e w' ⟨rfl, rfl⟩))
  all_goals
    have h := ‹_›
    go_ret
    exact ⟨by simp [stampOkB, *], below_box _ _⟩
set_option maxHeartbeats 400000 in
theorem stampLess_impl (t s u v : Int) (w : World) :
    Calls Try.prog 22 #[.agg #[.int .i64 t, .int .i64 s], .agg #[.int .i64 u, .int .i64 v]] w fun e w' => e = .returned (.bool (stampLessB t s u v)) ∧ Below w.heap.size w w' := by
  go_enter Try.func22, Try.ntmps22
  go_wp2
  all_goals
    go_ret
    exact ⟨congrArg (fun b => Ending.returned (Value.bool b)) (by simp only [stampLessB]; simp [*]; try omega), below_box2 _ _ _⟩
set_option maxHeartbeats 400000 in
theorem verSlot_impl (n : Int) (w : World) :
    Calls Try.prog 11 #[.int .i64 n] w fun e w' => e = .returned (.int .i64 (verSlotI n)) ∧ w = w' := by
  by_cases h : inB n 0 5 = true
  · have h' := inB_iff.1 h
    obtain ⟨h1, h2⟩ := h'
    go_enter Try.func11, Try.ntmps11
    go_wp2_with (go_at_call 32; refine (isKey_impl _ _).mono ?_; rintro e w' ⟨rfl, rfl⟩)
    go_ret
    exact ⟨congrArg (fun b => Ending.returned (Value.int .i64 b)) (by simp only [verSlotI, if_pos h]), rfl⟩
  · go_enter Try.func11, Try.ntmps11
    go_wp2_with (go_at_call 32; refine (isKey_impl _ _).mono ?_; rintro e w' ⟨rfl, rfl⟩)
    go_ret
    exact ⟨congrArg (fun b => Ending.returned (Value.int .i64 b)) (by simp only [verSlotI, if_neg h]), rfl⟩
set_option maxHeartbeats 400000 in
theorem in_spec (n lo hi : Int) (w : World) :
    Calls Try.prog 50 #[.int .i64 n, .int .i64 lo, .int .i64 hi] w fun e w' => e = .returned (.bool (inB n lo hi)) ∧ w = w' := by
  by_cases h1 : lo ≤ n <;> by_cases h2 : n ≤ hi
  all_goals
    go_enter Try.func50, Try.ntmps50
    go_wp2
    go_ret
    exact ⟨by simp [inB, h1, h2], rfl⟩
set_option maxHeartbeats 400000 in
theorem isSite_spec (n : Int) (w : World) :
    Calls Try.prog 62 #[.int .i64 n] w fun e w' => e = .returned (.bool (inB n 0 3)) ∧ w = w' := by
  go_enter Try.func62, Try.ntmps62
  go_wp2_with (go_at_call 50; refine (in_spec _ _ _ _).mono ?_; rintro e w' ⟨rfl, rfl⟩)
  go_ret
  exact ⟨rfl, rfl⟩
set_option maxHeartbeats 400000 in
theorem isKey_spec (n : Int) (w : World) :
    Calls Try.prog 44 #[.int .i64 n] w fun e w' => e = .returned (.bool (inB n 0 5)) ∧ w = w' := by
  go_enter Try.func44, Try.ntmps44
  go_wp2_with (go_at_call 50; refine (in_spec _ _ _ _).mono ?_; rintro e w' ⟨rfl, rfl⟩)
  go_ret
  exact ⟨rfl, rfl⟩
set_option maxHeartbeats 400000 in
theorem stampOk_spec (t s : Int) (w : World) :
    Calls Try.prog 45 #[.agg #[.int .i64 t, .int .i64 s]] w fun e w' => e = .returned (.bool (stampOkB t s)) ∧ Below w.heap.size w w' := by
  go_enter Try.func45, Try.ntmps45
  go_wp2_with (first | (go_at_call 50; refine (in_spec _ _ _ _).mono ?_; rintro e w' ⟨rfl, rfl⟩) | (go_at_call 62; refine (isSite_spec _ _).mono ?_; rintro e w' ⟨rfl, rfl⟩))
  all_goals
    have h := ‹_›
    go_ret
    exact ⟨by simp [stampOkB, *], below_box _ _⟩
set_option maxHeartbeats 400000 in
theorem stampLess_spec (t s u v : Int) (w : World) :
    Calls Try.prog 54 #[.agg #[.int .i64 t, .int .i64 s], .agg #[.int .i64 u, .int .i64 v]] w fun e w' => e = .returned (.bool (stampLessB t s u v)) ∧ Below w.heap.size w w' := by
  go_enter Try.func54, Try.ntmps54
  go_wp2
  all_goals
    go_ret
    exact ⟨congrArg (fun b => Ending.returned (Value.bool b)) (by simp only [stampLessB]; simp [*]; try omega), below_box2 _ _ _⟩
set_option maxHeartbeats 400000 in
theorem verSlot_spec (n : Int) (w : World) :
    Calls Try.prog 26 #[.int .i64 n] w fun e w' => e = .returned (.int .i64 (verSlotI n)) ∧ w = w' := by
  by_cases h : inB n 0 5 = true
  · have h' := inB_iff.1 h
    obtain ⟨h1, h2⟩ := h'
    go_enter Try.func26, Try.ntmps26
    go_wp2_with (go_at_call 44; refine (isKey_spec _ _).mono ?_; rintro e w' ⟨rfl, rfl⟩)
    go_ret
    exact ⟨congrArg (fun b => Ending.returned (Value.int .i64 b)) (by simp only [verSlotI, if_pos h]), rfl⟩
  · go_enter Try.func26, Try.ntmps26
    go_wp2_with (go_at_call 44; refine (isKey_spec _ _).mono ?_; rintro e w' ⟨rfl, rfl⟩)
    go_ret
    exact ⟨congrArg (fun b => Ending.returned (Value.int .i64 b)) (by simp only [verSlotI, if_neg h]), rfl⟩
def szR (left : Int) (n : Nat) : Int := if left < (n : Int) then -1 else left - (n : Int)
end Go.Proofs.Ytdheoaefmacamaa
