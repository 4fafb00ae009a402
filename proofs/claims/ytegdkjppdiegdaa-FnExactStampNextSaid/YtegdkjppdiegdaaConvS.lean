/- Stamps handed over, counted and compared by the laws' own functions. -/
import Derived.Test.YtegdkjppdiegdaaStampW
namespace Go.Proofs.Ytegdkjppdiegdaa
open Go.RowKit Go.Deep
set_option linter.unusedVariables false
theorem eqStamp_same (t s : Int) (w : World) : Calls Try.prog 33 #[.agg #[.int .i64 t, .int .i64 s], .agg #[.int .i64 t, .int .i64 s]] w fun e w' => e = .returned (.bool true) ∧ Below w.heap.size w w' :=
  (eqStamp_laws t s t s w).mono fun e w' ⟨h1, h2⟩ => ⟨by simpa using h1, h2⟩
def szR (left : Int) (n : Nat) : Int := if left < (n : Int) then -1 else left - (n : Int)
theorem infoStampI : (Try.prog.info? 26).map (fun i => (i.zero, i.size, i.bytes)) = some (some (.agg #[.int .i64 0, .int .i64 0]), 2, 16) := by kernel_rfl
/-- The slice handed back is new memory of the callee's own, and holds l. -/
def OwnStamps (l : List (Int × Int)) (w : World) (e : Ending) (w' : World) : Prop := ∃ v, e = .returned v ∧ w'.ownsRow w.heap.size 26 2 v l.length (stsC l) ∧ Below w.heap.size w w'
set_option maxHeartbeats 1000000 in
theorem toStampS_laws (l : List (Int × Int)) (a : Option Addr) (cap : Nat) (w : World) (hr : Reads w a l.length cap (stsC l)) (hl : l.length ≤ 1048577) :
    Calls Try.prog 32 #[.slice a l.length cap] w (OwnStamps l w) := by
  obtain ⟨i0, hi, hz0, hz1, hz2⟩ := info_parts infoStampI
  have hmk := fun W => run_make_rowN (P := Try.prog) 41 26 i0 _ Try.underlying41 hi hz0 .i64 .i64 l.length l.length (Nat.le_refl _) (by rw [hz2]; omega) (by omega) W
  rw [hz1] at hmk
  go_enter Try.func32, Try.ntmps32
  go_wp2
  have r0 := row_made w (stsC l) #[.int .i64 0, .int .i64 0] (l.length * 2) 26
  have hb0 := below_box w (.cells (madeCells #[.int .i64 0, .int .i64 0] (l.length * 2)) 26)
  go_loopw [4] (fun i wr => ∃ k : Nat, k ≤ l.length ∧ i = .int .i64 k ∧ wr.rowIs w.heap.size 26 (l.length * 2) (fillF (stsC l) #[.int .i64 0, .int .i64 0] (k * 2)) ∧ Below w.heap.size w wr) (fun i _ => l.length - (intOf i).toNat)
  case atStart => exact ⟨0, Nat.zero_le _, rfl, by simpa using r0, hb0⟩
  case round =>
    obtain ⟨k, hk, rfl, hrow, hb⟩ := hrel
    by_cases hlt : k < l.length
    · have hr' := hr.below hb
      obtain ⟨_, _, h3⟩ := hr'
      obtain ⟨b, off, rfl, hbl, hcell⟩ := h3 (stsC_ne (by omega))
      obtain ⟨g0, g1⟩ := stsC_get l k hlt
      have c0 := hcell _ _ g0
      have c1 := hcell _ _ g1
      rw [← Nat.add_assoc] at c1
      clear hcell h3
      go_wp2_with fail
      refine (toStamp_laws _ _ _).mono ?_
      rintro e w2 ⟨rfl, hb2⟩
      have hrow2 := hrow.of_block (hb2.block _ hrow.lt)
      have hbw := below_after hb hb2
      have hrow3 := row_fill1 (row_fill1 (hrow2) g0) g1
      have f0 := fun o => hrow2.frozen o
      have hx0 := hrow2.cell (i := k * 2) (by omega)
      have hx1 := hrow2.cell (i := k * 2 + 1) (by omega)
      clear hrow
      go_wp2
      go_roundw
      case rel =>
        refine ⟨k + 1, by omega, by go_num, ?_, by repeat (first | exact hbw | refine below_setb ?_ (Nat.le_refl _) _)⟩
        rw [show (k + 1) * 2 = k * 2 + 1 + 1 from by omega]
        exact hrow3
      case measure => simp [intOf]; omega
    · obtain rfl : k = l.length := by omega
      go_wp2
      go_ret
      exact ⟨_, rfl, row_owns hrow (stsC_len l) (Nat.le_refl _) (by unfold maxLen; omega), hb⟩
set_option maxHeartbeats 400000 in
theorem szStampS_laws (n : Nat) (left : Int) (a : Option Addr) (cap : Nat) (w : World) (h0 : 0 ≤ left) (h1 : left ≤ 1048576) (hn : n ≤ maxLen) :
    Calls Try.prog 31 #[.slice a n cap, .int .i64 left] w fun e w' => e = .returned (.int .i64 (szR left n)) ∧ w = w' := by
  unfold maxLen at hn
  by_cases h : left < (n : Int)
  · have h' : left - (n : Int) < 0 := by omega
    go_enter Try.func31, Try.ntmps31
    go_wp2
    go_ret
    exact ⟨by rw [szR, if_pos (by omega)]; rfl, rfl⟩
  · have h' : (0 : Int) ≤ left - (n : Int) := by omega
    go_enter Try.func31, Try.ntmps31
    go_wp2
    go_ret
    exact ⟨by rw [szR, if_neg (by omega)]; rfl, rfl⟩
set_option maxHeartbeats 1000000 in
theorem eqStampS_same (l : List (Int × Int)) (a a' : Option Addr) (cap cap' : Nat) (w : World) (hr : Reads w a l.length cap (stsC l)) (hs : Reads w a' l.length cap' (stsC l)) :
    Calls Try.prog 34 #[.slice a l.length cap, .slice a' l.length cap'] w fun e w' => e = .returned (.bool true) ∧ Below w.heap.size w w' := by
  have hn := hr.len
  go_enter Try.func34, Try.ntmps34
  go_wp2
  go_loopw [5] (fun i wr => ∃ k : Nat, k ≤ l.length ∧ i = .int .i64 k ∧ Below w.heap.size w wr) (fun i _ => l.length - (intOf i).toNat)
  case atStart => exact ⟨0, Nat.zero_le _, rfl, Below.refl _ _⟩
  case round =>
    obtain ⟨k, hk, rfl, hb⟩ := hrel
    by_cases hlt : k < l.length
    · have hr' := hr.below hb
      have hs' := hs.below hb
      obtain ⟨_, _, h3⟩ := hr'
      obtain ⟨_, _, h4⟩ := hs'
      obtain ⟨b, off, rfl, hbl, hcell⟩ := h3 (stsC_ne (by omega))
      obtain ⟨b', off', rfl, hbl', hcell'⟩ := h4 (stsC_ne (by omega))
      obtain ⟨g0, g1⟩ := stsC_get l k hlt
      have c0 := hcell _ _ g0
      have c1 := hcell _ _ g1
      rw [← Nat.add_assoc] at c1
      have d0 := hcell' _ _ g0
      have d1 := hcell' _ _ g1
      rw [← Nat.add_assoc] at d1
      have hi0 : (0 : Int) ≤ (k : Int) := by omega
      have hi1 : (k : Int) < (l.length : Int) := by omega
      clear hcell h3 hcell' h4 g0 g1
      go_wp2
      refine region_over (by kernel_rfl) (by kernel_rfl) ?_
      repeat (go_big_quiet_step (first | (go_at_call 33; exact quiet_over (eqStamp_same _ _ _))))
      refine wpQuiet_nil ?_
      intro w1 hb1
      have hbw := below_after hb hb1
      go_wp2
      go_roundw
      case rel => exact ⟨k + 1, by omega, by go_num, hbw⟩
      case measure => simp [intOf]; omega
    · obtain rfl : k = l.length := by omega
      go_wp2
      go_ret
      exact ⟨rfl, hb⟩
end Go.Proofs.Ytegdkjppdiegdaa
