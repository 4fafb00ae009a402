/- The draws of stamps and of numbers: what is handed back, and that nothing old turns. -/
import Derived.Test.YtegdkjppdiegdaaDraw1
namespace Go.Proofs.Ytegdkjppdiegdaa
open Go.RowKit
set_option linter.unusedVariables false

/-- A number is drawn. -/
def DrawnInt (lo hi : Int) (w : World) (e : Ending) (w' : World) : Prop := ∃ x : Int, e = .returned (.int .i64 x) ∧ lo ≤ x ∧ x ≤ hi ∧ Below w.heap.size w w'
/-- One stamp is drawn. -/
def DrawnOne (w : World) (e : Ending) (w' : World) : Prop := ∃ t s : Int, e = .returned (.agg #[.int .i64 t, .int .i64 s]) ∧ -1 ≤ t ∧ t ≤ 10000 ∧ -1 ≤ s ∧ s ≤ 4 ∧ Below w.heap.size w w'
/-- Two stamps are drawn. -/
def DrawnTwo (w : World) (e : Ending) (w' : World) : Prop :=
  ∃ t s u v : Int, e = .returned (.tuple #[.agg #[.int .i64 t, .int .i64 s], .agg #[.int .i64 u, .int .i64 v]]) ∧ -1 ≤ t ∧ t ≤ 10000 ∧ -1 ≤ s ∧ s ≤ 4 ∧ -1 ≤ u ∧ u ≤ 10000 ∧ -1 ≤ v ∧ v ≤ 4 ∧ Below w.heap.size w w'

set_option maxHeartbeats 400000 in
theorem DrawSiteSide_any (a : Option Addr) (len cap : Nat) (w : World) (hb : BytesIn w a len cap) :
    Calls Try.prog 26 #[.slice a len cap] w (DrawnInt (-1) 5 w) := by
  go_enter Try.func26, Try.ntmps26
  go_wp2_with fail
  refine (open_any a len cap w hb).mono ?_
  rintro e w1 ⟨rfl, hr1, hb1⟩
  go_wp2_with fail
  refine (pick_any 7 _ _ _ _ hr1 (by omega) (by omega) (by omega)).mono ?_
  rintro e w2 ⟨x, rfl, h1, h2, hr2, hg2⟩
  go_wp2_with fail
  go_ret
  exact ⟨_, rfl, by omega, by omega, below_grown hb1 hg2 (Nat.le_refl _)⟩
set_option maxHeartbeats 400000 in
theorem DrawVerSlot_any (a : Option Addr) (len cap : Nat) (w : World) (hb : BytesIn w a len cap) :
    Calls Try.prog 27 #[.slice a len cap] w (DrawnInt (-1) 7 w) := by
  go_enter Try.func27, Try.ntmps27
  go_wp2_with fail
  refine (open_any a len cap w hb).mono ?_
  rintro e w1 ⟨rfl, hr1, hb1⟩
  go_wp2_with fail
  refine (pick_any 9 _ _ _ _ hr1 (by omega) (by omega) (by omega)).mono ?_
  rintro e w2 ⟨x, rfl, h1, h2, hr2, hg2⟩
  go_wp2_with fail
  go_ret
  exact ⟨_, rfl, by omega, by omega, below_grown hb1 hg2 (Nat.le_refl _)⟩
set_option maxHeartbeats 400000 in
theorem DrawStampOk_any (a : Option Addr) (len cap : Nat) (w : World) (hb : BytesIn w a len cap) :
    Calls Try.prog 25 #[.slice a len cap] w (DrawnOne w) := by
  go_enter Try.func25, Try.ntmps25
  have G0 := Below.refl w.heap.size w
  go_wp2_with fail
  have B1 := Blk.new w #[.int .i64 0, .int .i64 0] 26
  have G0 := below_alloc G0 (.cells #[.int .i64 0, .int .i64 0] 26)
  refine (open_any a len cap _ (hb.alloc (.cells #[.int .i64 0, .int .i64 0] 26))).mono ?_
  rintro e w1 ⟨rfl, hr1, hb1⟩
  simp only [World.size_alloc] at hr1
  have B1 := B1.below hb1 B1.lt
  have G0 := below_after G0 hb1
  go_wp2_with fail
  refine (l72Stamp_any _ _ _ _ hr1 (by omega)).mono ?_
  rintro e w2 ⟨t, s, q2, rfl, ht1, ht2, hs1, hs2, hq1, hq2, hr2, hg2⟩
  have B1 := B1.grown hg2 (by omega)
  have G0 := below_grown G0 hg2 (by omega)
  obtain ⟨k00, k01, k0f, k0l⟩ := B1.two
  go_wp2_with fail
  exact bodyPost_ret (v := .agg #[.int .i64 t, .int .i64 s]) (by simp [results, Try.results25, go_sem, *]) rfl ⟨_, _, rfl, ht1, ht2, hs1, hs2, below_setb (below_setb G0 (by omega) _) (by omega) _⟩
set_option maxHeartbeats 400000 in
theorem DrawStampLess_any (a : Option Addr) (len cap : Nat) (w : World) (hb : BytesIn w a len cap) :
    Calls Try.prog 24 #[.slice a len cap] w (DrawnTwo w) := by
  go_enter Try.func24, Try.ntmps24
  have G0 := Below.refl w.heap.size w
  go_wp2_with fail
  have B1 := Blk.new w #[.int .i64 0, .int .i64 0] 26
  have G0 := below_alloc G0 (.cells #[.int .i64 0, .int .i64 0] 26)
  have B1 := B1.alloc (.cells #[.int .i64 0, .int .i64 0] 26)
  have B2 := Blk.new (w.alloc (.cells #[.int .i64 0, .int .i64 0] 26)) #[.int .i64 0, .int .i64 0] 26
  simp only [World.size_alloc] at B2
  have G0 := below_alloc G0 (.cells #[.int .i64 0, .int .i64 0] 26)
  refine (open_any a len cap _ ((hb.alloc (.cells #[.int .i64 0, .int .i64 0] 26)).alloc (.cells #[.int .i64 0, .int .i64 0] 26))).mono ?_
  rintro e w1 ⟨rfl, hr1, hb1⟩
  simp only [World.size_alloc] at hr1
  have B1 := B1.below hb1 B1.lt
  have B2 := B2.below hb1 B2.lt
  have G0 := below_after G0 hb1
  go_wp2_with fail
  refine (l72Stamp_any _ _ _ _ hr1 (by omega)).mono ?_
  rintro e w2 ⟨t, s, q2, rfl, ht1, ht2, hs1, hs2, hq1, hq2, hr2, hg2⟩
  have B1 := B1.grown hg2 (by omega)
  have B2 := B2.grown hg2 (by omega)
  have G0 := below_grown G0 hg2 (by omega)
  go_wp2_with fail
  refine (l72Stamp_any _ _ _ _ hr2 (by omega)).mono ?_
  rintro e w3 ⟨u, v, q3, rfl, hu1, hu2, hv1, hv2, hq3, hq4, hr3, hg3⟩
  have B1 := B1.grown hg3 (by omega)
  have B2 := B2.grown hg3 (by omega)
  have G0 := below_grown G0 hg3 (by omega)
  obtain ⟨k00, k01, k0f, k0l⟩ := B1.two
  obtain ⟨k10, k11, k1f, k1l⟩ := B2.two
  go_wp2_with fail
  exact bodyPost_ret (v := .tuple #[.agg #[.int .i64 t, .int .i64 s], .agg #[.int .i64 u, .int .i64 v]]) (by simp [results, Try.results24, go_sem, *]) rfl ⟨_, _, _, _, rfl, ht1, ht2, hs1, hs2, hu1, hu2, hv1, hv2, by repeat (first | exact G0 | refine below_setb ?_ (by omega) _)⟩
end Go.Proofs.Ytegdkjppdiegdaa
