/- Dependencies handed over, counted, compared and marked by the laws' own functions. -/
import Derived.Test.YthciikogogkfcaaDepsP
namespace Go.Proofs.Ythciikogogkfcaa
open Go.RowKit Go.Deep
set_option linter.unusedVariables false
set_option maxHeartbeats 1000000 in
theorem toDep_laws (k t s : Int) (w : World) :
    Calls Try.prog 120 #[.agg #[.int .i64 k, .int .i64 t, .int .i64 s]] w fun e w' => e = .returned (.agg #[.int .i64 k, .int .i64 t, .int .i64 s]) ∧ Below w.heap.size w w' := by
  have C1 := ((Blk.new w #[.int .i64 k, .int .i64 t, .int .i64 s] 138).alloc (.cells #[.int .i64 0, .int .i64 0, .int .i64 0] 32)).alloc (.cells #[.int .i64 k, .int .i64 0, .int .i64 0] 32)
  have C2 := (Blk.new (w.alloc (.cells #[.int .i64 k, .int .i64 t, .int .i64 s] 138)) #[.int .i64 0, .int .i64 0, .int .i64 0] 32).alloc (.cells #[.int .i64 k, .int .i64 0, .int .i64 0] 32)
  have C3 := Blk.new ((w.alloc (.cells #[.int .i64 k, .int .i64 t, .int .i64 s] 138)).alloc (.cells #[.int .i64 0, .int .i64 0, .int .i64 0] 32)) #[.int .i64 k, .int .i64 0, .int .i64 0] 32
  simp only [World.size_alloc] at C2 C3
  have G := below_alloc (below_alloc (below_alloc (Below.refl _ w) (.cells #[.int .i64 k, .int .i64 t, .int .i64 s] 138)) (.cells #[.int .i64 0, .int .i64 0, .int .i64 0] 32)) (.cells #[.int .i64 k, .int .i64 0, .int .i64 0] 32)
  go_enter Try.func120, Try.ntmps120
  go_wp2_with fail
  refine (toStamp_laws _ _ _).mono ?_
  rintro e w1 ⟨rfl, hb1⟩
  have C1 := C1.below hb1 C1.lt
  have C2 := C2.below hb1 C2.lt
  have C3 := C3.below hb1 C3.lt
  have G1 := below_after G hb1
  obtain ⟨a0, a1, a2, af, al⟩ := C1.three
  obtain ⟨b0, b1, b2, bf, bl⟩ := C2.three
  obtain ⟨c0, c1, c2, cf, cl⟩ := C3.three
  go_wp2
  exact bodyPost_ret (v := .agg #[.int .i64 k, .int .i64 t, .int .i64 s]) (by simp [results, Try.results120, go_sem, *]) rfl ⟨rfl, by repeat (first | exact G1 | refine below_setb ?_ (by omega) _ | refine below_alloc ?_ _)⟩
set_option maxHeartbeats 1000000 in
theorem eqDep_same (k t s : Int) (w : World) :
    Calls Try.prog 105 #[.agg #[.int .i64 k, .int .i64 t, .int .i64 s], .agg #[.int .i64 k, .int .i64 t, .int .i64 s]] w fun e w' => e = .returned (.bool true) ∧ Below w.heap.size w w' := by
  have G := below_box2 w (.cells #[.int .i64 k, .int .i64 t, .int .i64 s] 32) (.cells #[.int .i64 k, .int .i64 t, .int .i64 s] 32)
  go_enter Try.func105, Try.ntmps105
  go_wp2_with fail
  refine (eqStamp_same _ _ _).mono ?_
  rintro e w1 ⟨rfl, hb1⟩
  go_wp2
  go_ret
  exact ⟨rfl, below_after G hb1⟩
theorem infoDepI : (Try.prog.info? 32).map (fun i => (i.zero, i.size, i.bytes)) = some (some (.agg #[.int .i64 0, .int .i64 0, .int .i64 0]), 3, 24) := by kernel_rfl
/-- The slice handed back is new memory of the callee's own, and holds l. -/
def ToNewDep (l : List (Int × Int × Int)) (w : World) (e : Ending) (w' : World) : Prop := ∃ v, e = .returned v ∧ w'.ownsRow w.heap.size 32 3 v l.length (dpsC l) ∧ Below w.heap.size w w'
set_option maxHeartbeats 1000000 in
theorem toDepS_laws (l : List (Int × Int × Int)) (a : Option Addr) (cap : Nat) (w : World) (hr : Reads w a l.length cap (dpsC l)) (hl : l.length ≤ 1048577) :
    Calls Try.prog 77 #[.slice a l.length cap] w (ToNewDep l w) := by
  obtain ⟨i0, hi, hz0, hz1, hz2⟩ := info_parts infoDepI
  have hmk := fun W => run_make_rowN (P := Try.prog) 25 32 i0 _ Try.underlying25 hi hz0 .i64 .i64 l.length l.length (Nat.le_refl _) (by rw [hz2]; omega) (by omega) W
  rw [hz1] at hmk
  go_enter Try.func77, Try.ntmps77
  go_wp2
  have r0 := row_made w (dpsC l) #[.int .i64 0, .int .i64 0, .int .i64 0] (l.length * 3) 32
  have hb0 := below_box w (.cells (madeCells #[.int .i64 0, .int .i64 0, .int .i64 0] (l.length * 3)) 32)
  go_loopw [4] (fun i wr => ∃ k : Nat, k ≤ l.length ∧ i = .int .i64 k ∧ wr.rowIs w.heap.size 32 (l.length * 3) (fillF (dpsC l) #[.int .i64 0, .int .i64 0, .int .i64 0] (k * 3)) ∧ Below w.heap.size w wr) (fun i _ => l.length - (intOf i).toNat)
  case atStart => exact ⟨0, Nat.zero_le _, rfl, by simpa using r0, hb0⟩
  case round =>
    obtain ⟨k, hk, rfl, hrow, hb⟩ := hrel
    by_cases hlt : k < l.length
    · have hr' := hr.below hb
      obtain ⟨_, _, h3⟩ := hr'
      obtain ⟨b, off, rfl, hbl, hcell⟩ := h3 (dpsC_ne (by omega))
      obtain ⟨g0, g1, g2⟩ := dpsC_get l k hlt
      have c0 := hcell _ _ g0
      have c1 := hcell _ _ g1
      rw [← Nat.add_assoc] at c1
      have c2 := hcell _ _ g2
      rw [← Nat.add_assoc] at c2
      clear hcell h3
      go_wp2_with fail
      refine (toDep_laws _ _ _ _).mono ?_
      rintro e w2 ⟨rfl, hb2⟩
      have hrow2 := hrow.of_block (hb2.block _ hrow.lt)
      have hbw := below_after hb hb2
      have hrow3 := row_fill1 (row_fill1 (row_fill1 (hrow2) g0) g1) g2
      have f0 := fun o => hrow2.frozen o
      have hx0 := hrow2.cell (i := k * 3) (by omega)
      have hx1 := hrow2.cell (i := k * 3 + 1) (by omega)
      have hx2 := hrow2.cell (i := k * 3 + 2) (by omega)
      clear hrow
      go_wp2
      go_roundw
      case rel =>
        refine ⟨k + 1, by omega, by go_num, ?_, by repeat (first | exact hbw | refine below_setb ?_ (Nat.le_refl _) _)⟩
        rw [show (k + 1) * 3 = k * 3 + 1 + 1 + 1 from by omega]
        exact hrow3
      case measure => simp [intOf]; omega
    · obtain rfl : k = l.length := by omega
      go_wp2
      go_ret
      exact ⟨_, rfl, row_owns hrow (dpsC_len l) (Nat.le_refl _) (by unfold maxLen; omega), hb⟩
set_option maxHeartbeats 400000 in
theorem szDepS_laws (n : Nat) (left : Int) (a : Option Addr) (cap : Nat) (w : World) (h0 : 0 ≤ left) (h1 : left ≤ 1048576) (hn : n ≤ maxLen) :
    Calls Try.prog 73 #[.slice a n cap, .int .i64 left] w fun e w' => e = .returned (.int .i64 (szR left n)) ∧ w = w' := by
  unfold maxLen at hn
  by_cases h : left < (n : Int)
  · have h' : left - (n : Int) < 0 := by omega
    go_enter Try.func73, Try.ntmps73
    go_wp2
    go_ret
    exact ⟨by rw [szR, if_pos (by omega)]; rfl, rfl⟩
  · have h' : (0 : Int) ≤ left - (n : Int) := by omega
    go_enter Try.func73, Try.ntmps73
    go_wp2
    go_ret
    exact ⟨by rw [szR, if_neg (by omega)]; rfl, rfl⟩
set_option maxHeartbeats 1000000 in
theorem eqDepS_same (l : List (Int × Int × Int)) (a a' : Option Addr) (cap cap' : Nat) (w : World) (hr : Reads w a l.length cap (dpsC l)) (hs : Reads w a' l.length cap' (dpsC l)) :
    Calls Try.prog 41 #[.slice a l.length cap, .slice a' l.length cap'] w fun e w' => e = .returned (.bool true) ∧ Below w.heap.size w w' := by
  have hn := hr.len
  go_enter Try.func41, Try.ntmps41
  go_wp2
  go_loopw [5] (fun i wr => ∃ k : Nat, k ≤ l.length ∧ i = .int .i64 k ∧ Below w.heap.size w wr) (fun i _ => l.length - (intOf i).toNat)
  case atStart => exact ⟨0, Nat.zero_le _, rfl, Below.refl _ _⟩
  case round =>
    obtain ⟨k, hk, rfl, hb⟩ := hrel
    by_cases hlt : k < l.length
    · have hr' := hr.below hb
      have hs' := hs.below hb
      obtain ⟨_, _, h3⟩ := hr'
      obtain ⟨_, _, h4⟩ := hs'
      obtain ⟨b, off, rfl, hbl, hcell⟩ := h3 (dpsC_ne (by omega))
      obtain ⟨b', off', rfl, hbl', hcell'⟩ := h4 (dpsC_ne (by omega))
      obtain ⟨g0, g1, g2⟩ := dpsC_get l k hlt
      have c0 := hcell _ _ g0
      have c1 := hcell _ _ g1
      rw [← Nat.add_assoc] at c1
      have c2 := hcell _ _ g2
      rw [← Nat.add_assoc] at c2
      have d0 := hcell' _ _ g0
      have d1 := hcell' _ _ g1
      rw [← Nat.add_assoc] at d1
      have d2 := hcell' _ _ g2
      rw [← Nat.add_assoc] at d2
      have hi0 : (0 : Int) ≤ (k : Int) := by omega
      have hi1 : (k : Int) < (l.length : Int) := by omega
      clear hcell h3 hcell' h4 g0 g1 g2
      go_wp2
      refine region_over (by kernel_rfl) (by kernel_rfl) ?_
      repeat (go_big_quiet_step (first | (go_at_call 105; exact quiet_over (eqDep_same _ _ _ _))))
      refine wpQuiet_nil ?_
      intro w1 hb1
      have hbw := below_after hb hb1
      go_wp2
      go_roundw
      case rel => exact ⟨k + 1, by omega, by go_num, hbw⟩
      case measure => simp [intOf]; omega
    · obtain rfl : k = l.length := by omega
      go_wp2
      go_ret
      exact ⟨rfl, hb⟩
/-- What a list holds that has been marked from k on. -/
def marksD (k : Int) : Nat → List Dp
  | 0 => []
  | n + 1 => (k, k + 1, k + 2) :: marksD (k + 3) n
theorem marksD_len (k : Int) (n : Nat) : (marksD k n).length = n := by
  induction n generalizing k with
  | zero => rfl
  | succ n ih => simp [marksD, ih]
theorem marksD_get (k : Int) (n i : Nat) (h : i < n) : (marksD k n)[i]'(by rw [marksD_len]; exact h) = (k + 3 * (i : Int), k + 3 * (i : Int) + 1, k + 3 * (i : Int) + 2) := by
  induction n generalizing k i with
  | zero => omega
  | succ n ih =>
    cases i with
    | zero => simp [marksD]
    | succ i =>
      simp only [marksD, List.getElem_cons_succ]
      rw [ih (k + 3) i (by omega)]
      simp only [Prod.mk.injEq]
      push_cast
      omega
set_option maxHeartbeats 1000000 in
theorem heldDepS_laws (n : Nat) (k : Int) (a : Option Addr) (cap : Nat) (w : World) (hr : Reads w a n cap (dpsC (marksD k n))) (h0 : 0 ≤ k) (h1 : k ≤ 1000000000) (hn : n ≤ 1048577) :
    Calls Try.prog 44 #[.slice a n cap, .int .i64 k] w fun e w' => e = .returned (.int .i64 (k + 3 * (n : Int))) ∧ w = w' := by
  have hlen := marksD_len k n
  go_enter Try.func44, Try.ntmps44
  go_wp2
  go_loop [1, 5] (fun q i => ∃ j : Nat, j ≤ n ∧ i = .int .i64 j ∧ q = .int .i64 (k + 3 * (j : Int))) (fun _ i => n - (intOf i).toNat)
  case atStart => exact ⟨0, Nat.zero_le _, rfl, by simp⟩
  case round =>
    obtain ⟨j, hj, rfl, rfl⟩ := hrel
    by_cases hlt : j < n
    · have hr' := hr
      obtain ⟨_, _, h3⟩ := hr'
      obtain ⟨b, off, rfl, hbl, hcell⟩ := h3 (dpsC_ne (by omega))
      obtain ⟨g0, g1, g2⟩ := dpsC_get (marksD k n) j (by omega)
      have c0 := hcell _ _ g0
      have c1 := hcell _ _ g1
      have c2 := hcell _ _ g2
      rw [marksD_get k n j hlt] at c0 c1 c2
      simp only at c0 c1 c2
      rw [← Nat.add_assoc] at c1 c2
      have e1 : (k + 3 * (j : Int) + 1 + 1) = k + 3 * (j : Int) + 2 := by omega
      clear hcell h3 g0 g1 g2 hlen
      go_wp2
      go_round
      case rel => exact ⟨j + 1, by omega, by go_num, int_eq (by push_cast; omega)⟩
      case measure => simp [intOf]; omega
    · obtain rfl : j = n := by omega
      go_wp2
      go_ret
      exact ⟨rfl, rfl⟩
/-- A list of one's own has been marked. -/
def Marked (N : Nat) (v : Value) (n : Nat) (k : Int) (w : World) (e : Ending) (w' : World) : Prop :=
  e = .returned (.int .i64 (k + 3 * (n : Int))) ∧ w'.ownsRow N 32 3 v n (dpsC (marksD k n)) ∧ w.grownBy w' v.ownBlock
set_option maxHeartbeats 1000000 in
theorem markDepS_laws (n : Nat) (k : Int) (a : Option Addr) (cap N : Nat) (xs : List Value) (w : World) (own : w.ownsRow N 32 3 (.slice a n cap) n xs) (h0 : 0 ≤ k) (h1 : k ≤ 1000000000) (hn : n ≤ 1048577) :
    Calls Try.prog 43 #[.slice a n cap, .int .i64 k] w (Marked N (.slice a n cap) n k w) := by
  rcases own.2 with ⟨hv, rfl⟩ | ⟨g, cap', cur, hv, hg, hh, hnc, hm, hs, ht⟩
  · simp only [Value.slice.injEq] at hv
    obtain ⟨rfl, -, rfl⟩ := hv
    go_enter Try.func43, Try.ntmps43
    go_wp2
    go_loop [1, 5] (fun q i => q = .int .i64 k ∧ i = .int .i64 0) (fun _ _ => 0)
    case atStart => exact ⟨rfl, rfl⟩
    case round =>
      obtain ⟨rfl, rfl⟩ := hrel
      go_wp2
      go_ret
      exact ⟨ret_int (by simp), World.ownsRow_nil _ _ _ _, only_refl _ _⟩
  · simp only [Value.slice.injEq] at hv
    obtain ⟨rfl, -, rfl⟩ := hv
    unfold maxLen at hm
    have hlen := marksD_len k n
    have row0 := row_of_cells hh (dpsC (marksD k n))
    rw [hs] at row0
    go_enter Try.func43, Try.ntmps43
    go_wp2
    go_loopw [1, 5] (fun q i wr => ∃ j : Nat, j ≤ n ∧ i = .int .i64 j ∧ q = .int .i64 (k + 3 * (j : Int)) ∧ wr.rowIs g 32 (cap * 3) (fillF (dpsC (marksD k n)) cur (j * 3)) ∧ w.grownBy wr (some g)) (fun _ i _ => n - (intOf i).toNat)
    case atStart => exact ⟨0, Nat.zero_le _, rfl, int_eq (by simp), by simpa using row0, only_refl _ _⟩
    case round =>
      obtain ⟨j, hj, rfl, rfl, row, hgr⟩ := hrel
      by_cases hlt : j < n
      · obtain ⟨g0, g1, g2⟩ := dpsC_get (marksD k n) j (by omega)
        rw [marksD_get k n j hlt] at g0 g1 g2
        simp only at g0 g1 g2
        have row3 := row_fill1 (row_fill1 (row_fill1 row g0) g1) g2
        have f0 := fun o => row.frozen o
        have x0 := row.cell (i := j * 3) (by omega)
        have x1 := row.cell (i := j * 3 + 1) (by omega)
        have x2 := row.cell (i := j * 3 + 2) (by omega)
        have hlt' : (j : Int) < (n : Int) := by omega
        have HW := Lib.hid row3
        clear row3 g0 g1 g2 row hlen
        go_wp2
        go_roundw
        case rel =>
          refine ⟨j + 1, by omega, by go_num, int_eq (by push_cast; omega), ?_, ?_⟩
          · rw [show (j + 1) * 3 = j * 3 + 1 + 1 + 1 from by omega]
            have h := HW.out
            rw [show k + 3 * (j : Int) + 2 = k + 3 * (j : Int) + 1 + 1 from by omega] at h
            exact h
          · repeat (first | exact hgr | refine only_setCell ?_ (Or.inl rfl) _)
        case measure => simp [intOf]; omega
      · obtain rfl : j = n := by omega
        go_wp2
        go_ret
        exact ⟨rfl, row_owns2 row (by rw [dpsC_len, hlen]) hg hnc (by unfold maxLen; omega), hgr⟩

end Go.Proofs.Ythciikogogkfcaa
