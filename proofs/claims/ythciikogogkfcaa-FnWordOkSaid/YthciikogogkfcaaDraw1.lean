/- What the drawing functions hand back: values of their types, within bounds; only the reader and new memory turn. -/
import Derived.Test.YthciikogogkfcaaRead
namespace Go.Proofs.Ythciikogogkfcaa
open Go.RowKit
set_option linter.unusedVariables false

theorem Rd.setb {N : Nat} {w : World} {g q : Nat} (h : Rd N w g q) {b o : Nat} (hp : N ≤ b) (u : Value) : Rd N (w.setCell ⟨b, o, none⟩ u) g q := h.set (p := ⟨b, o, none⟩) hp u
/-- A stamp is drawn. -/
def DrawnStamp (N : Nat) (w : World) (g q : Nat) (e : Ending) (w' : World) : Prop :=
  ∃ (t s : Int) (q' : Nat), e = .returned (.agg #[.int .i64 t, .int .i64 s]) ∧ -1 ≤ t ∧ t ≤ 10000 ∧ -1 ≤ s ∧ s ≤ 4 ∧ q ≤ q' ∧ q' ≤ q + 4 ∧ Rd N w' g q' ∧ w.grownBy w' (some g)


set_option maxHeartbeats 1000000 in
theorem l72Stamp_any (N g q : Nat) (w : World) (hr : Rd N w g q) (hq : q ≤ 900000) :
    Calls Try.prog 110 #[.pointer (some ⟨g, 0, none⟩)] w (DrawnStamp N w g q) := by
  have hNg := hr.lt
  have hNw := hr.le
  go_enter Try.func110, Try.ntmps110
  have G0 := only_refl w (some g)
  go_wp2_with fail
  have B1 := Blk.new w #[.int .i64 0, .int .i64 0] 24
  have G0 := only_alloc G0 (.cells #[.int .i64 0, .int .i64 0] 24)
  refine (pick_any 5 N g q _ (hr.alloc _) (by omega) (by omega) (by omega)).mono ?_
  rintro e w1 ⟨x1, rfl, h1a, h1b, hr1, hg1⟩
  have B1 := B1.grown hg1 (by omega)
  have G0 := grown_trans' G0 hg1
  have z1 := G0.size
  go_wp2_with fail
  refine (pick_any 4 N g _ _ hr1 (by omega) (by omega) (by omega)).mono ?_
  rintro e w2 ⟨x2, rfl, h2a, h2b, hr2, hg2⟩
  have B1 := B1.grown hg2 (by omega)
  have G0 := grown_trans' G0 hg2
  have z2 := G0.size
  go_wp2_with fail
  have n01 := B1.lt
  have B1 := B1.alloc (.cells #[.int .i64 (1 + x1), .int .i64 x2] 24)
  have B2 := Blk.new w2 #[.int .i64 (1 + x1), .int .i64 x2] 24
  have G0 := only_alloc G0 (.cells #[.int .i64 (1 + x1), .int .i64 x2] 24)
  refine (pick_any 20 N g _ _ (hr2.alloc _) (by omega) (by omega) (by omega)).mono ?_
  rintro e w3 ⟨x3, rfl, h3a, h3b, hr3, hg3⟩
  have B1 := B1.grown hg3 (by omega)
  have B2 := B2.grown hg3 (by omega)
  have G0 := grown_trans' G0 hg3
  have z3 := G0.size
  by_cases c0 : x3 = 0
  · skip
    subst c0
    go_wp2_with fail
    have B1 := B1.alloc (.cells #[.int .i64 (-1), .int .i64 0, .int .i64 9999, .int .i64 10000] 3)
    have B2 := B2.alloc (.cells #[.int .i64 (-1), .int .i64 0, .int .i64 9999, .int .i64 10000] 3)
    have B3 := Blk.new w3 #[.int .i64 (-1), .int .i64 0, .int .i64 9999, .int .i64 10000] 3
    have G0 := only_alloc G0 (.cells #[.int .i64 (-1), .int .i64 0, .int .i64 9999, .int .i64 10000] 3)
    refine (pick_any 4 N g _ _ (hr3.alloc _) (by omega) (by omega) (by omega)).mono ?_
    rintro e w4 ⟨x4, rfl, h4a, h4b, hr4, hg4⟩
    have B1 := B1.grown hg4 (by omega)
    have B2 := B2.grown hg4 (by omega)
    have B3 := B3.grown hg4 (by omega)
    have G0 := grown_trans' G0 hg4
    have z4 := G0.size
    obtain ⟨k00, k01, k0f, k0l⟩ := B1.two
    obtain ⟨k10, k11, k1f, k1l⟩ := B2.two
    have hx : x4 = 0 ∨ x4 = 1 ∨ x4 = 2 ∨ x4 = 3 := by omega
    have ne : w2.heap.size ≠ w.heap.size := by omega
    rcases hx with rfl | rfl | rfl | rfl
    · have k2 := B3.cell 0 rfl
      go_wp2_with fail
      exact bodyPost_ret (v := .agg #[.int .i64 (-1), .int .i64 x2]) (by simp [results, Try.results110, go_sem, *]) rfl ⟨_, _, (q + 4), rfl, by omega, by omega, by omega, by omega, by omega, by omega, by repeat (first | exact hr4 | refine Rd.setb ?_ (by omega) _), by repeat (first | exact G0 | refine only_setb ?_ (by omega) _)⟩
    · have k2 := B3.cell 1 rfl
      go_wp2_with fail
      exact bodyPost_ret (v := .agg #[.int .i64 0, .int .i64 x2]) (by simp [results, Try.results110, go_sem, *]) rfl ⟨_, _, (q + 4), rfl, by omega, by omega, by omega, by omega, by omega, by omega, by repeat (first | exact hr4 | refine Rd.setb ?_ (by omega) _), by repeat (first | exact G0 | refine only_setb ?_ (by omega) _)⟩
    · have k2 := B3.cell 2 rfl
      go_wp2_with fail
      exact bodyPost_ret (v := .agg #[.int .i64 9999, .int .i64 x2]) (by simp [results, Try.results110, go_sem, *]) rfl ⟨_, _, (q + 4), rfl, by omega, by omega, by omega, by omega, by omega, by omega, by repeat (first | exact hr4 | refine Rd.setb ?_ (by omega) _), by repeat (first | exact G0 | refine only_setb ?_ (by omega) _)⟩
    · have k2 := B3.cell 3 rfl
      go_wp2_with fail
      exact bodyPost_ret (v := .agg #[.int .i64 10000, .int .i64 x2]) (by simp [results, Try.results110, go_sem, *]) rfl ⟨_, _, (q + 4), rfl, by omega, by omega, by omega, by omega, by omega, by omega, by repeat (first | exact hr4 | refine Rd.setb ?_ (by omega) _), by repeat (first | exact G0 | refine only_setb ?_ (by omega) _)⟩
  · have c0' : (x3 == 0) = false := by simpa using c0
    by_cases c1 : x3 = 1
    · skip
      subst c1
      go_wp2_with fail
      have B1 := B1.alloc (.cells #[.int .i64 (-1), .int .i64 4] 3)
      have B2 := B2.alloc (.cells #[.int .i64 (-1), .int .i64 4] 3)
      have B3 := Blk.new w3 #[.int .i64 (-1), .int .i64 4] 3
      have G0 := only_alloc G0 (.cells #[.int .i64 (-1), .int .i64 4] 3)
      refine (pick_any 2 N g _ _ (hr3.alloc _) (by omega) (by omega) (by omega)).mono ?_
      rintro e w4 ⟨x4, rfl, h4a, h4b, hr4, hg4⟩
      have B1 := B1.grown hg4 (by omega)
      have B2 := B2.grown hg4 (by omega)
      have B3 := B3.grown hg4 (by omega)
      have G0 := grown_trans' G0 hg4
      have z4 := G0.size
      obtain ⟨k00, k01, k0f, k0l⟩ := B1.two
      obtain ⟨k10, k11, k1f, k1l⟩ := B2.two
      have hx : x4 = 0 ∨ x4 = 1 := by omega
      have ne : w2.heap.size ≠ w.heap.size := by omega
      rcases hx with rfl | rfl
      · have k2 := B3.cell 0 rfl
        go_wp2_with fail
        exact bodyPost_ret (v := .agg #[.int .i64 (1 + x1), .int .i64 (-1)]) (by simp [results, Try.results110, go_sem, *]) rfl ⟨_, _, (q + 4), rfl, by omega, by omega, by omega, by omega, by omega, by omega, by repeat (first | exact hr4 | refine Rd.setb ?_ (by omega) _), by repeat (first | exact G0 | refine only_setb ?_ (by omega) _)⟩
      · have k2 := B3.cell 1 rfl
        go_wp2_with fail
        exact bodyPost_ret (v := .agg #[.int .i64 (1 + x1), .int .i64 4]) (by simp [results, Try.results110, go_sem, *]) rfl ⟨_, _, (q + 4), rfl, by omega, by omega, by omega, by omega, by omega, by omega, by repeat (first | exact hr4 | refine Rd.setb ?_ (by omega) _), by repeat (first | exact G0 | refine only_setb ?_ (by omega) _)⟩
    · have c1' : (x3 == 1) = false := by simpa using c1
      obtain ⟨k00, k01, k0f, k0l⟩ := B1.two
      obtain ⟨k10, k11, k1f, k1l⟩ := B2.two
      have ne : w2.heap.size ≠ w.heap.size := by omega
      go_wp2_with fail
      exact bodyPost_ret (v := .agg #[.int .i64 (1 + x1), .int .i64 x2]) (by simp [results, Try.results110, go_sem, *]) rfl ⟨_, _, (q + 3), rfl, by omega, by omega, by omega, by omega, by omega, by omega, by repeat (first | exact hr3 | refine Rd.setb ?_ (by omega) _), by repeat (first | exact G0 | refine only_setb ?_ (by omega) _)⟩

end Go.Proofs.Ythciikogogkfcaa
