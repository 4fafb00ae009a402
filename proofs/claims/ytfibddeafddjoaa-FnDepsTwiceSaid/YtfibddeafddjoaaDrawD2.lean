/- The draws of dependencies with one more, or with a key. -/
import Derived.Test.YtfibddeafddjoaaDrawD
import Derived.Deep.RegionHeld3
import Derived.Deep.RegionWith
namespace Go.Proofs.Ytfibddeafddjoaa
open Go.RowKit Go.Deep
set_option linter.unusedVariables false

set_option maxHeartbeats 2000000 in
theorem DrawDepsPut_any (a : Option Addr) (len cap : Nat) (w : World) (hb : BytesIn w a len cap) :
    Calls Try.prog 31 #[.slice a len cap] w (DrawnListDep w) := by
  have BR := Blk.new w #[.int .i64 0, .int .i64 0, .int .i64 0] 38
  have G0 := below_box w (.cells #[.int .i64 0, .int .i64 0, .int .i64 0] 38)
  go_enter Try.func31, Try.ntmps31
  go_wp2_with fail
  refine (open_any a len cap _ (hb.alloc (.cells #[.int .i64 0, .int .i64 0, .int .i64 0] 38))).mono ?_
  rintro e w1 ⟨rfl, hr1, hb1⟩
  simp only [World.size_alloc] at hr1
  have BR := BR.below hb1 BR.lt
  have G0 := below_after G0 hb1
  have hN := hr1.le
  go_wp2_with fail
  refine (l72Dep_any _ _ _ _ hr1 (by omega)).mono ?_
  rintro e w2 ⟨d, q2, rfl, hd0, hd1, hd2, hd3, hd4, hd5, hq2, hr2, hg2⟩
  have BR := BR.grown hg2 (by omega)
  have G0 := below_grown G0 hg2 (by omega)
  have BR := BR.alloc (.cells #[.int .i64 d.1, .int .i64 d.2.1, .int .i64 d.2.2] 38)
  have BD := Blk.new w2 #[.int .i64 d.1, .int .i64 d.2.1, .int .i64 d.2.2] 38
  have sz2 := hg2.size
  have G0 := below_alloc G0 (.cells #[.int .i64 d.1, .int .i64 d.2.1, .int .i64 d.2.2] 38)
  go_wp2_with fail
  refine (pick_any 12 _ _ _ _ (hr2.alloc (.cells #[.int .i64 d.1, .int .i64 d.2.1, .int .i64 d.2.2] 38)) (by omega) (by omega) (by omega)).mono ?_
  rintro e w3 ⟨x3, rfl, h3a, h3b, hr3, hg3⟩
  have BR := BR.grown hg3 (by omega)
  have BD := BD.grown hg3 (by omega)
  have sz3 := hg3.size
  simp only [World.size_alloc] at sz3
  have G0 := below_grown G0 hg3 (by omega)
  by_cases c0 : x3 = 0
  · subst c0
    go_wp2_with fail
    refine (l72Stamp_any _ _ _ _ hr3 (by omega)).mono ?_
    rintro e w4 ⟨t, s, q4, rfl, ht1, ht2, hs1, hs2, hq3, hq4, hr4, hg4⟩
    have BR := BR.grown hg4 (by omega)
    have BD := BD.grown hg4 (by omega)
    have sz4 := hg4.size
    have G0 := below_grown G0 hg4 (by omega)
    obtain ⟨d0, d1, d2, df, dl⟩ := BD.three
    have hne : w.heap.size ≠ w2.heap.size := by omega
    have hr5 := ((hr4.setb (b := w2.heap.size) (o := 1) (by omega) (.int .i64 t)).setb (b := w2.heap.size) (o := 2) (by omega) (.int .i64 s)).below ((Below.refl _ _).drew)
    have BR := Blk.drew ((BR.setb (b' := w2.heap.size) (o := 1) hne (.int .i64 t)).setb (b' := w2.heap.size) (o := 2) hne (.int .i64 s))
    have BD := Blk.drew ((BD.set 1 (.int .i64 t)).set 2 (.int .i64 s))
    have G0 := below_setb (below_setb G0 (b := w2.heap.size) (o := 1) (by omega) (.int .i64 t)) (b := w2.heap.size) (o := 2) (by omega) (.int .i64 s)
    have G0 := G0.drew
    change Blk _ _ #[.int .i64 d.1, .int .i64 t, .int .i64 s] _ at BD
    go_wp2_with fail
    have hne2 : w2.heap.size ≠ w.heap.size := by omega
    have hRN := BR.lt
    go_region_held3 (fun W => W.cell? ⟨w2.heap.size, 0, none⟩ = some (.int .i64 d.1) ∧ W.cell? ⟨w2.heap.size, 1, none⟩ = some (.int .i64 t) ∧ W.cell? ⟨w2.heap.size, 2, none⟩ = some (.int .i64 s)) (first | exact ⟨BD.three.1, BD.three.2.1, BD.three.2.2.1⟩ | exact ⟨BDs.three.1, BDs.three.2.1, BDs.three.2.2.1⟩) (first | (go_at_call 49; refine (l72Deps_any _ _ _ _ hr5 (by omega)).mono ?_; rintro e w7 ⟨l7, v7, q7, rfl, hl7, own7, hq7, hr7, hg7⟩; have BR := BR.grown hg7 (by omega); have BD := BD.grown hg7 (by omega); have sz7 := hg7.size; have G0 := below_grown G0 hg7 (by omega); obtain ⟨r0, r1, r2, rf, rl⟩ := BR.three; have BDs := ((BD.setb (b' := w.heap.size) (o := 0) hne2 (.int .i64 d.1)).setb (b' := w.heap.size) (o := 1) hne2 (.int .i64 t)).setb (b' := w.heap.size) (o := 2) hne2 (.int .i64 s)))
    obtain ⟨p7, c7, rfl, rd7⟩ := Reads.of_owns own7
    have own8 := own_set (own_set (own_set own7 (own_ne' own7 (b := w.heap.size) (by omega)) (o := 0) (.int .i64 d.1)) (own_ne' own7 (b := w.heap.size) (by omega)) (o := 1) (.int .i64 t)) (own_ne' own7 (b := w.heap.size) (by omega)) (o := 2) (.int .i64 s)
    have rd8 := Reads.own own8
    have G8 := below_setb (below_setb (below_setb G0 (b := w.heap.size) (o := 0) (Nat.le_refl _) (.int .i64 d.1)) (b := w.heap.size) (o := 1) (Nat.le_refl _) (.int .i64 t)) (b := w.heap.size) (o := 2) (Nat.le_refl _) (.int .i64 s)
    go_wp2
    exact bodyPost_ret (v := .tuple #[.slice p7 l7.length c7, .agg #[.int .i64 d.1, .int .i64 t, .int .i64 s]]) (by simp [results, Try.results31, go_sem, *]) rfl ⟨l7, p7, c7, (d.1, t, s), rfl, hl7, rd8, G8⟩
  · have c0' : (x3 == 0) = false := by simpa using c0
    have hr4 := hr3.below ((Below.refl _ _).drew)
    have BR := BR.drew
    have BD := BD.drew
    have G0 := G0.drew
    go_wp2_with fail
    have hne2 : w2.heap.size ≠ w.heap.size := by omega
    have hRN := BR.lt
    go_region_held3 (fun W => W.cell? ⟨w2.heap.size, 0, none⟩ = some (.int .i64 d.1) ∧ W.cell? ⟨w2.heap.size, 1, none⟩ = some (.int .i64 d.2.1) ∧ W.cell? ⟨w2.heap.size, 2, none⟩ = some (.int .i64 d.2.2)) (first | exact ⟨BD.three.1, BD.three.2.1, BD.three.2.2.1⟩ | exact ⟨BDs.three.1, BDs.three.2.1, BDs.three.2.2.1⟩) (first | (go_at_call 49; refine (l72Deps_any _ _ _ _ hr4 (by omega)).mono ?_; rintro e w7 ⟨l7, v7, q7, rfl, hl7, own7, hq7, hr7, hg7⟩; have BR := BR.grown hg7 (by omega); have BD := BD.grown hg7 (by omega); have sz7 := hg7.size; have G0 := below_grown G0 hg7 (by omega); obtain ⟨r0, r1, r2, rf, rl⟩ := BR.three; have BDs := ((BD.setb (b' := w.heap.size) (o := 0) hne2 (.int .i64 d.1)).setb (b' := w.heap.size) (o := 1) hne2 (.int .i64 d.2.1)).setb (b' := w.heap.size) (o := 2) hne2 (.int .i64 d.2.2)))
    obtain ⟨p7, c7, rfl, rd7⟩ := Reads.of_owns own7
    have own8 := own_set (own_set (own_set own7 (own_ne' own7 (b := w.heap.size) (by omega)) (o := 0) (.int .i64 d.1)) (own_ne' own7 (b := w.heap.size) (by omega)) (o := 1) (.int .i64 d.2.1)) (own_ne' own7 (b := w.heap.size) (by omega)) (o := 2) (.int .i64 d.2.2)
    have rd8 := Reads.own own8
    have G8 := below_setb (below_setb (below_setb G0 (b := w.heap.size) (o := 0) (Nat.le_refl _) (.int .i64 d.1)) (b := w.heap.size) (o := 1) (Nat.le_refl _) (.int .i64 d.2.1)) (b := w.heap.size) (o := 2) (Nat.le_refl _) (.int .i64 d.2.2)
    go_wp2
    exact bodyPost_ret (v := .tuple #[.slice p7 l7.length c7, .agg #[.int .i64 d.1, .int .i64 d.2.1, .int .i64 d.2.2]]) (by simp [results, Try.results31, go_sem, *]) rfl ⟨l7, p7, c7, (d.1, d.2.1, d.2.2), rfl, hl7, rd8, G8⟩

set_option maxHeartbeats 2000000 in
theorem DrawDepsAt_any (a : Option Addr) (len cap : Nat) (w : World) (hb : BytesIn w a len cap) :
    Calls Try.prog 23 #[.slice a len cap] w (DrawnListKey w) := by
  go_enter Try.func23, Try.ntmps23
  go_wp2_with fail
  refine (open_any a len cap w hb).mono ?_
  rintro e w1 ⟨rfl, hr1, hb1⟩
  have hN := hr1.le
  go_wp2_with fail
  refine (l72Deps_any _ _ _ _ hr1 (by omega)).mono ?_
  rintro e w2 ⟨l2, v2, q2, rfl, hl2, own2, hq2, hr2, hg2⟩
  have sz2 := hg2.size
  have G2 := below_grown hb1 hg2 (Nat.le_refl _)
  obtain ⟨p2, c2, rfl, rd2⟩ := Reads.of_owns own2
  by_cases h0 : 0 < l2.length
  · go_wp2_with fail
    refine (pick_any 4 _ _ _ _ hr2 (by omega) (by omega) (by omega)).mono ?_
    rintro e w3 ⟨x3, rfl, h3a, h3b, hr3, hg3⟩
    have own3 := own_grown own2 hg3 (by omega)
    have sz3 := hg3.size
    have G3 := below_grown G2 hg3 (Nat.le_refl _)
    by_cases c0 : 0 < x3
    · have hr3' := hr3.below ((Below.refl _ _).drew)
      have own3' := own_below own3 ((Below.refl _ _).drew)
      have G3' := G3.drew
      go_wp2_with fail
      go_region_with (first | (go_at_call 50; refine (pick_any l2.length _ _ _ _ hr3' (by omega) (by omega) (by omega)).mono ?_; rintro e w4 ⟨x4, rfl, h4a, h4b, hr4, hg4⟩; have own4 := own_grown own3' hg4 (by omega); have G4 := below_grown G3' hg4 (Nat.le_refl _); obtain ⟨j, rfl⟩ := Int.eq_ofNat_of_zero_le h4a; have rd4 := Reads.own own4; obtain ⟨_, _, hh⟩ := rd4; obtain ⟨b, off, rfl, hbl, hcell⟩ := hh (dpsC_ne h0); have g0 := (dpsC_get l2 j (by omega)).1; have k0 := hcell _ _ g0; have rd4 := Reads.own own4; clear own4))
      all_goals (go_wp2; go_ret2; exact ⟨l2, _, c2, _, rfl, hl2, rd4, G4⟩)
    · go_wp2_with fail
      refine (pick_any 8 _ _ _ _ hr3 (by omega) (by omega) (by omega)).mono ?_
      rintro e w4 ⟨x4, rfl, h4a, h4b, hr4, hg4⟩
      have own4 := own_grown own3 hg4 (by omega)
      have G4 := below_grown G3 hg4 (Nat.le_refl _)
      go_wp2
      go_ret2
      exact ⟨l2, _, c2, _, rfl, hl2, Reads.own own4, G4⟩
  · go_wp2_with fail
    refine (pick_any 8 _ _ _ _ hr2 (by omega) (by omega) (by omega)).mono ?_
    rintro e w4 ⟨x4, rfl, h4a, h4b, hr4, hg4⟩
    have own4 := own_grown own2 hg4 (by omega)
    have G4 := below_grown G2 hg4 (Nat.le_refl _)
    go_wp2
    go_ret2
    exact ⟨l2, _, c2, _, rfl, hl2, Reads.own own4, G4⟩

end Go.Proofs.Ytfibddeafddjoaa
