/- The contracts of the stamps' functions: each returns what the plain function of the same name gives, and makes new memory alone. -/
import Derived.Test.YthciikogogkfcaaRows
import Derived.WalkKit
import Derived.WalkSpells
import Derived.WalkLawsBesides
import Derived.BigQuiet
import Derived.Test.YthciikogogkfcaaKit
namespace Go.Proofs.Ythciikogogkfcaa
open Go.RowKit
set_option linter.unusedVariables false

def inB (n lo hi : Int) : Bool := decide (lo ≤ n ∧ n ≤ hi)
def stampOkB (t s : Int) : Bool := inB t 1 9999 && inB s 0 3
def stampLessB (t s u v : Int) : Bool := decide (t < u) || (decide (t = u) && decide (s < v))
def siteSideI (n : Int) : Int := if inB n 0 3 then n / 2 else -1
def verSlotI (n : Int) : Int := if inB n 0 5 then (n * 3) / 6 else -1
theorem inB_iff {n lo hi : Int} : inB n lo hi = true ↔ lo ≤ n ∧ n ≤ hi := by simp [inB]
theorem inB_not {n lo hi : Int} : inB n lo hi = false ↔ ¬ (lo ≤ n ∧ n ≤ hi) := by simp [inB]

set_option maxHeartbeats 400000 in
theorem in_impl (n lo hi : Int) (w : World) :
    Calls Try.prog 49 #[.int .i64 n, .int .i64 lo, .int .i64 hi] w fun e w' => e = .returned (.bool (inB n lo hi)) ∧ w = w' := by
  by_cases h1 : lo ≤ n <;> by_cases h2 : n ≤ hi
  all_goals
    go_enter Try.func49, Try.ntmps49
    go_wp2
    go_ret
    exact ⟨by simp [inB, h1, h2], rfl⟩
set_option maxHeartbeats 400000 in
theorem isSite_impl (n : Int) (w : World) :
    Calls Try.prog 78 #[.int .i64 n] w fun e w' => e = .returned (.bool (inB n 0 3)) ∧ w = w' := by
  go_enter Try.func78, Try.ntmps78
  go_wp2_with (go_at_call 49; refine (in_impl _ _ _ _).mono ?_; rintro e w' ⟨rfl, rfl⟩)
  go_ret
  exact ⟨rfl, rfl⟩
set_option maxHeartbeats 400000 in
theorem isKey_impl (n : Int) (w : World) :
    Calls Try.prog 47 #[.int .i64 n] w fun e w' => e = .returned (.bool (inB n 0 5)) ∧ w = w' := by
  go_enter Try.func47, Try.ntmps47
  go_wp2_with (go_at_call 49; refine (in_impl _ _ _ _).mono ?_; rintro e w' ⟨rfl, rfl⟩)
  go_ret
  exact ⟨rfl, rfl⟩
set_option maxHeartbeats 400000 in
theorem stampOk_impl (t s : Int) (w : World) :
    Calls Try.prog 48 #[.agg #[.int .i64 t, .int .i64 s]] w fun e w' => e = .returned (.bool (stampOkB t s)) ∧ Below w.heap.size w w' := by
  go_enter Try.func48, Try.ntmps48
  go_wp2_with (first | (go_at_call 49; refine (in_impl _ _ _ _).mono ?_; rintro e w' ⟨rfl, rfl⟩) | (go_at_call 78; refine (isSite_impl _ _).mono ?_; rintro e w' ⟨rfl, rfl⟩))
  all_goals
    have h := ‹_›
    go_ret
    exact ⟨by simp [stampOkB, *], below_box _ _⟩
set_option maxHeartbeats 400000 in
theorem stampLess_impl (t s u v : Int) (w : World) :
    Calls Try.prog 13 #[.agg #[.int .i64 t, .int .i64 s], .agg #[.int .i64 u, .int .i64 v]] w fun e w' => e = .returned (.bool (stampLessB t s u v)) ∧ Below w.heap.size w w' := by
  go_enter Try.func13, Try.ntmps13
  go_wp2
  all_goals
    go_ret
    exact ⟨congrArg (fun b => Ending.returned (Value.bool b)) (by simp only [stampLessB]; simp [*]; try omega), below_box2 _ _ _⟩
set_option maxHeartbeats 400000 in
theorem siteSide_impl (n : Int) (w : World) :
    Calls Try.prog 122 #[.int .i64 n] w fun e w' => e = .returned (.int .i64 (siteSideI n)) ∧ w = w' := by
  by_cases h : inB n 0 3 = true
  · have h' := inB_iff.1 h
    obtain ⟨h1, h2⟩ := h'
    go_enter Try.func122, Try.ntmps122
    go_wp2_with (go_at_call 78; refine (isSite_impl _ _).mono ?_; rintro e w' ⟨rfl, rfl⟩)
    go_ret
    exact ⟨congrArg (fun b => Ending.returned (Value.int .i64 b)) (by simp only [siteSideI, if_pos h]), rfl⟩
  · go_enter Try.func122, Try.ntmps122
    go_wp2_with (go_at_call 78; refine (isSite_impl _ _).mono ?_; rintro e w' ⟨rfl, rfl⟩)
    go_ret
    exact ⟨congrArg (fun b => Ending.returned (Value.int .i64 b)) (by simp only [siteSideI, if_neg h]), rfl⟩
set_option maxHeartbeats 400000 in
theorem verSlot_impl (n : Int) (w : World) :
    Calls Try.prog 121 #[.int .i64 n] w fun e w' => e = .returned (.int .i64 (verSlotI n)) ∧ w = w' := by
  by_cases h : inB n 0 5 = true
  · have h' := inB_iff.1 h
    obtain ⟨h1, h2⟩ := h'
    go_enter Try.func121, Try.ntmps121
    go_wp2_with (go_at_call 47; refine (isKey_impl _ _).mono ?_; rintro e w' ⟨rfl, rfl⟩)
    go_ret
    exact ⟨congrArg (fun b => Ending.returned (Value.int .i64 b)) (by simp only [verSlotI, if_pos h]), rfl⟩
  · go_enter Try.func121, Try.ntmps121
    go_wp2_with (go_at_call 47; refine (isKey_impl _ _).mono ?_; rintro e w' ⟨rfl, rfl⟩)
    go_ret
    exact ⟨congrArg (fun b => Ending.returned (Value.int .i64 b)) (by simp only [verSlotI, if_neg h]), rfl⟩
set_option maxHeartbeats 400000 in
theorem in_spec (n lo hi : Int) (w : World) :
    Calls Try.prog 54 #[.int .i64 n, .int .i64 lo, .int .i64 hi] w fun e w' => e = .returned (.bool (inB n lo hi)) ∧ w = w' := by
  by_cases h1 : lo ≤ n <;> by_cases h2 : n ≤ hi
  all_goals
    go_enter Try.func54, Try.ntmps54
    go_wp2
    go_ret
    exact ⟨by simp [inB, h1, h2], rfl⟩
set_option maxHeartbeats 400000 in
theorem isSite_spec (n : Int) (w : World) :
    Calls Try.prog 68 #[.int .i64 n] w fun e w' => e = .returned (.bool (inB n 0 3)) ∧ w = w' := by
  go_enter Try.func68, Try.ntmps68
  go_wp2_with (go_at_call 54; refine (in_spec _ _ _ _).mono ?_; rintro e w' ⟨rfl, rfl⟩)
  go_ret
  exact ⟨rfl, rfl⟩
set_option maxHeartbeats 400000 in
theorem isKey_spec (n : Int) (w : World) :
    Calls Try.prog 52 #[.int .i64 n] w fun e w' => e = .returned (.bool (inB n 0 5)) ∧ w = w' := by
  go_enter Try.func52, Try.ntmps52
  go_wp2_with (go_at_call 54; refine (in_spec _ _ _ _).mono ?_; rintro e w' ⟨rfl, rfl⟩)
  go_ret
  exact ⟨rfl, rfl⟩
set_option maxHeartbeats 400000 in
theorem stampOk_spec (t s : Int) (w : World) :
    Calls Try.prog 53 #[.agg #[.int .i64 t, .int .i64 s]] w fun e w' => e = .returned (.bool (stampOkB t s)) ∧ Below w.heap.size w w' := by
  go_enter Try.func53, Try.ntmps53
  go_wp2_with (first | (go_at_call 54; refine (in_spec _ _ _ _).mono ?_; rintro e w' ⟨rfl, rfl⟩) | (go_at_call 68; refine (isSite_spec _ _).mono ?_; rintro e w' ⟨rfl, rfl⟩))
  all_goals
    have h := ‹_›
    go_ret
    exact ⟨by simp [stampOkB, *], below_box _ _⟩
set_option maxHeartbeats 400000 in
theorem stampLess_spec (t s u v : Int) (w : World) :
    Calls Try.prog 92 #[.agg #[.int .i64 t, .int .i64 s], .agg #[.int .i64 u, .int .i64 v]] w fun e w' => e = .returned (.bool (stampLessB t s u v)) ∧ Below w.heap.size w w' := by
  go_enter Try.func92, Try.ntmps92
  go_wp2
  all_goals
    go_ret
    exact ⟨congrArg (fun b => Ending.returned (Value.bool b)) (by simp only [stampLessB]; simp [*]; try omega), below_box2 _ _ _⟩
set_option maxHeartbeats 400000 in
theorem siteSide_spec (n : Int) (w : World) :
    Calls Try.prog 75 #[.int .i64 n] w fun e w' => e = .returned (.int .i64 (siteSideI n)) ∧ w = w' := by
  by_cases h : inB n 0 3 = true
  · have h' := inB_iff.1 h
    obtain ⟨h1, h2⟩ := h'
    go_enter Try.func75, Try.ntmps75
    go_wp2_with (go_at_call 68; refine (isSite_spec _ _).mono ?_; rintro e w' ⟨rfl, rfl⟩)
    go_ret
    exact ⟨congrArg (fun b => Ending.returned (Value.int .i64 b)) (by simp only [siteSideI, if_pos h]), rfl⟩
  · go_enter Try.func75, Try.ntmps75
    go_wp2_with (go_at_call 68; refine (isSite_spec _ _).mono ?_; rintro e w' ⟨rfl, rfl⟩)
    go_ret
    exact ⟨congrArg (fun b => Ending.returned (Value.int .i64 b)) (by simp only [siteSideI, if_neg h]), rfl⟩
set_option maxHeartbeats 400000 in
theorem verSlot_spec (n : Int) (w : World) :
    Calls Try.prog 84 #[.int .i64 n] w fun e w' => e = .returned (.int .i64 (verSlotI n)) ∧ w = w' := by
  by_cases h : inB n 0 5 = true
  · have h' := inB_iff.1 h
    obtain ⟨h1, h2⟩ := h'
    go_enter Try.func84, Try.ntmps84
    go_wp2_with (go_at_call 52; refine (isKey_spec _ _).mono ?_; rintro e w' ⟨rfl, rfl⟩)
    go_ret
    exact ⟨congrArg (fun b => Ending.returned (Value.int .i64 b)) (by simp only [verSlotI, if_pos h]), rfl⟩
  · go_enter Try.func84, Try.ntmps84
    go_wp2_with (go_at_call 52; refine (isKey_spec _ _).mono ?_; rintro e w' ⟨rfl, rfl⟩)
    go_ret
    exact ⟨congrArg (fun b => Ending.returned (Value.int .i64 b)) (by simp only [verSlotI, if_neg h]), rfl⟩
set_option maxHeartbeats 400000 in
theorem toStamp_laws (t s : Int) (w : World) :
    Calls Try.prog 17 #[.agg #[.int .i64 t, .int .i64 s]] w fun e w' => e = .returned (.agg #[.int .i64 t, .int .i64 s]) ∧ Below w.heap.size w w' := by
  go_enter Try.func17, Try.ntmps17
  go_wp2
  exact bodyPost_ret (v := .agg #[.int .i64 t, .int .i64 s]) (by simp [results, Try.results17, go_sem]) rfl ⟨rfl, by repeat (first | exact Below.refl _ _ | refine Below.drew ?_ | refine Below.alloc ?_ (by simp <;> omega) _ | refine Below.setCell ?_ (by simp <;> omega) _)⟩
set_option maxHeartbeats 400000 in
theorem eqStamp_laws (t s u v : Int) (w : World) :
    Calls Try.prog 63 #[.agg #[.int .i64 t, .int .i64 s], .agg #[.int .i64 u, .int .i64 v]] w fun e w' => e = .returned (.bool (decide (t = u ∧ s = v))) ∧ Below w.heap.size w w' := by
  go_enter Try.func63, Try.ntmps63
  go_wp2
  all_goals
    go_ret
    exact ⟨congrArg (fun b => Ending.returned (Value.bool b)) (by simp_all), below_box2 _ _ _⟩

theorem eqStamp_same (t s : Int) (w : World) : Calls Try.prog 63 #[.agg #[.int .i64 t, .int .i64 s], .agg #[.int .i64 t, .int .i64 s]] w fun e w' => e = .returned (.bool true) ∧ Below w.heap.size w w' :=
  (eqStamp_laws t s t s w).mono fun e w' ⟨h1, h2⟩ => ⟨by simpa using h1, h2⟩
def szR (left : Int) (n : Nat) : Int := if left < (n : Int) then -1 else left - (n : Int)
end Go.Proofs.Ythciikogogkfcaa
