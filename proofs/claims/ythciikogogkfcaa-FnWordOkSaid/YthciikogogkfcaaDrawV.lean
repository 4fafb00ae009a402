/- The draw of a version. -/
import Derived.Test.YthciikogogkfcaaDrawD
import Derived.Test.YthciikogogkfcaaVerP
namespace Go.Proofs.Ythciikogogkfcaa
open Go.RowKit Go.Deep
set_option linter.unusedVariables false

/-- A version is drawn, its dependencies in memory of the callee's own. -/
def DrawnVer (N : Nat) (w : World) (g q : Nat) (e : Ending) (w' : World) : Prop :=
  ∃ (v : Vp) (a : Option Addr) (c q' : Nat), e = .returned (.agg #[.int .i64 v.key, .int .i64 v.time, .int .i64 v.site, .int .i64 v.val, .int .i64 v.client, .int .i64 v.call, .slice a v.deps.length c]) ∧ v.deps.length ≤ 3 ∧ w'.ownsRow w.heap.size 32 3 (.slice a v.deps.length c) v.deps.length (dpsC v.deps) ∧ q' ≤ q + 60 ∧ Rd N w' g q' ∧ w.grownBy w' (some g)

set_option maxRecDepth 100000 in
set_option maxHeartbeats 8000000 in
theorem l72Ver_any (N g q : Nat) (w : World) (hr : Rd N w g q) (hq : q ≤ 700000) :
    Calls Try.prog 45 #[.pointer (some ⟨g, 0, none⟩)] w (DrawnVer N w g q) := by
  have hNg := hr.lt
  have hNw := hr.le
  go_enter Try.func45, Try.ntmps45
  have G0 := only_refl w (some g)
  go_wp2_with fail
  have B1 := Blk.new w #[.int .i64 0, .int .i64 0, .int .i64 0, .int .i64 0, .int .i64 0, .int .i64 0, .slice none 0 0] 27
  have G0 := only_alloc G0 (.cells #[.int .i64 0, .int .i64 0, .int .i64 0, .int .i64 0, .int .i64 0, .int .i64 0, .slice none 0 0] 27)
  refine (pick_any 6 N g q _ (hr.alloc _) (by omega) (by omega) (by omega)).mono ?_
  rintro e w1 ⟨x1, rfl, h1a, h1b, hr1, hg1⟩
  have B1 := B1.grown hg1 (by omega)
  have G0 := grown_trans' G0 hg1
  have z1 := G0.size
  go_wp2_with fail
  refine (pick_any 9 N g _ _ hr1 (by omega) (by omega) (by omega)).mono ?_
  rintro e w2 ⟨x2, rfl, h2a, h2b, hr2, hg2⟩
  have B1 := B1.grown hg2 (by omega)
  have G0 := grown_trans' G0 hg2
  have z2 := G0.size
  go_wp2_with fail
  refine (pick_any 4 N g _ _ hr2 (by omega) (by omega) (by omega)).mono ?_
  rintro e w3 ⟨x3, rfl, h3a, h3b, hr3, hg3⟩
  have B1 := B1.grown hg3 (by omega)
  have G0 := grown_trans' G0 hg3
  have z3 := G0.size
  go_wp2_with fail
  refine (pick_any 90 N g _ _ hr3 (by omega) (by omega) (by omega)).mono ?_
  rintro e w4 ⟨x4, rfl, h4a, h4b, hr4, hg4⟩
  have B1 := B1.grown hg4 (by omega)
  have G0 := grown_trans' G0 hg4
  have z4 := G0.size
  go_wp2_with fail
  refine (pick_any 2 N g _ _ hr4 (by omega) (by omega) (by omega)).mono ?_
  rintro e w5 ⟨x5, rfl, h5a, h5b, hr5, hg5⟩
  have B1 := B1.grown hg5 (by omega)
  have G0 := grown_trans' G0 hg5
  have z5 := G0.size
  go_wp2_with fail
  refine (pick_any 6 N g _ _ hr5 (by omega) (by omega) (by omega)).mono ?_
  rintro e w6 ⟨x6, rfl, h6a, h6b, hr6, hg6⟩
  have B1 := B1.grown hg6 (by omega)
  have G0 := grown_trans' G0 hg6
  have z6 := G0.size
  go_wp2_with fail
  have hZ6 := B1.lt
  have B1 := B1.alloc (.cells #[.int .i64 x1, .int .i64 (1 + x2), .int .i64 x3, .int .i64 x4, .int .i64 x5, .int .i64 (1 + x6), .slice none 0 0] 27)
  have B2 := Blk.new w6 #[.int .i64 x1, .int .i64 (1 + x2), .int .i64 x3, .int .i64 x4, .int .i64 x5, .int .i64 (1 + x6), .slice none 0 0] 27
  have G0 := only_alloc G0 (.cells #[.int .i64 x1, .int .i64 (1 + x2), .int .i64 x3, .int .i64 x4, .int .i64 x5, .int .i64 (1 + x6), .slice none 0 0] 27)
  refine (pick_any 4 N g _ _ (hr6.alloc _) (by omega) (by omega) (by omega)).mono ?_
  rintro e w7 ⟨x7, rfl, h7a, h7b, hr7, hg7⟩
  have B1 := B1.grown hg7 (by omega)
  have B2 := B2.grown hg7 (by omega)
  have G0 := grown_trans' G0 hg7
  have z7 := G0.size
  have hlZ := B1.lt
  have hneZ : w.heap.size ≠ w6.heap.size := by omega
  have hNM : N ≤ w6.heap.size := by omega
  have hZM : w.heap.size ≤ w6.heap.size := by omega
  obtain ⟨m, rfl⟩ := Int.eq_ofNat_of_zero_le h7a
  have hm3 : m ≤ 3 := by omega
  have own0 := World.ownsRow_nil w7 (w6.heap.size + 1) 32 3
  clear h7a h7b
  have G2 := G0
  go_wp2
  go_loopw [4, 5] (fun n _ wr => ∃ (m : Nat) (ds : List Dp) (p : Option Addr) (c q1 : Nat), m + ds.length ≤ 3 ∧ n = .int .i64 m ∧ m ≤ 3 ∧ q1 + 4 * m ≤ q + 19 ∧ wr.ownsRow (w6.heap.size + 1) 32 3 (.slice p ds.length c) ds.length (dpsC ds) ∧ Blk wr w.heap.size #[.int .i64 0, .int .i64 0, .int .i64 0, .int .i64 0, .int .i64 0, .int .i64 0, .slice none 0 0] 27 ∧ Blk wr w6.heap.size #[.int .i64 x1, .int .i64 (1 + x2), .int .i64 x3, .int .i64 x4, .int .i64 x5, .int .i64 (1 + x6), .slice p ds.length c] 27 ∧ Rd N wr g q1 ∧ w.grownBy wr (some g)) (fun n _ _ => (intOf n).toNat)
  case atStart => exact ⟨m, [], none, 0, q + 7, by simpa using hm3, rfl, hm3, by omega, own0, B1, B2, hr7, G0⟩
  case round =>
    obtain ⟨m, ds, p, c, q1, hml, rfl, hm, hq1, own, B1, B2, hr2, G2⟩ := hrel
    have hl2 := B2.lt
    have s2 := G2.size
    by_cases hlt : 0 < m
    · go_wp2_with fail
      refine (l72Dep_any N g q1 _ hr2 (by omega)).mono ?_
      rintro e w8 ⟨d, q8, rfl, hd0, hd1, hd2, hd3, hd4, hd5, hq8, hr8, hg8⟩
      have own := own_grown own hg8 (by omega)
      have B1 := B1.grown hg8 (by omega)
      have B2 := B2.grown hg8 (by omega)
      have G2 := grown_trans' G2 hg8
      have BD := Blk.new w8 #[.int .i64 d.1, .int .i64 d.2.1, .int .i64 d.2.2] 32
      have own := own.alloc (.cells #[.int .i64 d.1, .int .i64 d.2.1, .int .i64 d.2.2] 32)
      have B1 := B1.alloc (.cells #[.int .i64 d.1, .int .i64 d.2.1, .int .i64 d.2.2] 32)
      have B2 := B2.alloc (.cells #[.int .i64 d.1, .int .i64 d.2.1, .int .i64 d.2.2] 32)
      have hr8 := hr8.alloc (.cells #[.int .i64 d.1, .int .i64 d.2.1, .int .i64 d.2.2] 32)
      have G2 := only_alloc G2 (.cells #[.int .i64 d.1, .int .i64 d.2.1, .int .i64 d.2.2] 32)
      by_cases hlt2 : d.2.1 < 1 + x2
      · skip
        obtain ⟨y0, y1, y2, y3, y4, y5, y6, yf, yl⟩ := B2.seven
        obtain ⟨d0, d1, d2, df, dl⟩ := BD.three
        go_wp2_with fail
        refine (DepsPut_spec ds d p c _ (Reads.own own) (by omega)).mono ?_
        rintro e wA ⟨vA, rfl, ownA, hbA⟩
        obtain ⟨pA, cA, rfl, rdA⟩ := Reads.of_owns ownA
        have hpl := putR_len ds d
        have sA := G2.size
        have hlM := B2.lt
        have B1 := B1.below hbA B1.lt
        have B2 := B2.below hbA B2.lt
        obtain ⟨u0, u1, u2, u3, u4, u5, u6, uf, ul⟩ := B2.seven
        have ownA := own_set ownA (own_ne' ownA (b := w6.heap.size) hlM) (o := 6) (.slice pA (putR ds d).length cA)
        have ownA := own_base ownA (show w6.heap.size + 1 ≤ _ by omega)
        have B2 := B2.put6 (.slice pA (putR ds d).length cA)
        have B1 := B1.setb (b' := w6.heap.size) (o := 6) hneZ (.slice pA (putR ds d).length cA)
        have hrA := (hr8.below hbA).setb (b := w6.heap.size) (o := 6) hNM (.slice pA (putR ds d).length cA)
        have G3 := only_setb (grown_trans' G2 (grown_of_below hbA _)) (b := w6.heap.size) (o := 6) (by omega) (.slice pA (putR ds d).length cA)
        go_wp2
        go_roundw
        case rel => exact ⟨m - 1, putR ds d, pA, cA, q8, by omega, by go_num, by omega, by omega, ownA, B1, B2, hrA, G3⟩
        case measure => simp [intOf]; omega

      · have hge2 : 1 + x2 ≤ d.2.1 := by omega
        obtain ⟨y0, y1, y2, y3, y4, y5, y6, yf, yl⟩ := B2.seven
        obtain ⟨d0, d1, d2, df, dl⟩ := BD.three
        have hbd := BD.lt
        have s8 := hg8.size
        go_wp2_with fail
        refine (pick_any 20 N g _ _ hr8 (by omega) (by omega) (by omega)).mono ?_
        rintro e w9 ⟨x9, rfl, h9a, h9b, hr9, hg9⟩
        have own := own_grown own hg9 (by omega)
        have B1 := B1.grown hg9 (by omega)
        have B2 := B2.grown hg9 (by omega)
        have G2 := grown_trans' G2 hg9
        have BD := BD.grown hg9 (by omega)
        by_cases hx9 : x9 = 0
        · subst hx9
          obtain ⟨y0, y1, y2, y3, y4, y5, y6, yf, yl⟩ := B2.seven
          obtain ⟨d0, d1, d2, df, dl⟩ := BD.three
          go_wp2_with fail
          refine (DepsPut_spec ds d p c _ (Reads.own own) (by omega)).mono ?_
          rintro e wA ⟨vA, rfl, ownA, hbA⟩
          obtain ⟨pA, cA, rfl, rdA⟩ := Reads.of_owns ownA
          have hpl := putR_len ds d
          have sA := G2.size
          have hlM := B2.lt
          have B1 := B1.below hbA B1.lt
          have B2 := B2.below hbA B2.lt
          obtain ⟨u0, u1, u2, u3, u4, u5, u6, uf, ul⟩ := B2.seven
          have ownA := own_set ownA (own_ne' ownA (b := w6.heap.size) hlM) (o := 6) (.slice pA (putR ds d).length cA)
          have ownA := own_base ownA (show w6.heap.size + 1 ≤ _ by omega)
          have B2 := B2.put6 (.slice pA (putR ds d).length cA)
          have B1 := B1.setb (b' := w6.heap.size) (o := 6) hneZ (.slice pA (putR ds d).length cA)
          have hrA := (hr9.below hbA).setb (b := w6.heap.size) (o := 6) hNM (.slice pA (putR ds d).length cA)
          have G3 := only_setb (grown_trans' G2 (grown_of_below hbA _)) (b := w6.heap.size) (o := 6) (by omega) (.slice pA (putR ds d).length cA)
          go_wp2
          go_roundw
          case rel => exact ⟨m - 1, putR ds d, pA, cA, (q8 + 1), by omega, by go_num, by omega, by omega, ownA, B1, B2, hrA, G3⟩
          case measure => simp [intOf]; omega

        · have hx9' : (x9 == 0) = false := by simpa using hx9
          clear hx9
          go_wp2
          go_roundw
          case rel => exact ⟨m - 1, ds, p, c, q8 + 1, by omega, by go_num, by omega, by omega, own, B1, B2, hr9, G2⟩
          case measure => simp [intOf]; omega
    · obtain rfl : m = 0 := by omega
      go_wp2_with fail
      refine (pick_any 24 N g q1 _ hr2 (by omega) (by omega) (by omega)).mono ?_
      rintro e w8 ⟨x8, rfl, h8a, h8b, hr8, hg8⟩
      have own := own_grown own hg8 (by omega)
      have B1 := B1.grown hg8 (by omega)
      have B2 := B2.grown hg8 (by omega)
      have G2 := grown_trans' G2 hg8
      have s8 := G2.size
      obtain ⟨q8, hq8⟩ : ∃ q8, q8 = q1 + 1 := ⟨_, rfl⟩
      rw [← hq8] at hr8
      clear hr1 hr2 hr3 hr4 hr5 hr6 hr7 hg1 hg2 hg3 hg4 hg5 hg6 hg7 own0 hr hg8 hlt
      by_cases e0 : x8 = 0
      · subst e0
        go_wp2_with fail
        have BS := Blk.new w8 #[.int .i64 (-1), .int .i64 6] 3
        have own := own.alloc (.cells #[.int .i64 (-1), .int .i64 6] 3)
        have B1 := B1.alloc (.cells #[.int .i64 (-1), .int .i64 6] 3)
        have B2 := B2.alloc (.cells #[.int .i64 (-1), .int .i64 6] 3)
        have G2 := only_alloc G2 (.cells #[.int .i64 (-1), .int .i64 6] 3)
        refine (pick_any 2 N g _ _ (hr8.alloc _) (by omega) (by omega) (by omega)).mono ?_
        rintro e w9 ⟨x9, rfl, h9a, h9b, hr9, hg9⟩
        have BS := BS.grown hg9 (by omega)
        have own := own_grown own hg9 (by omega)
        have B1 := B1.grown hg9 (by omega)
        have B2 := B2.grown hg9 (by omega)
        have G2 := grown_trans' G2 hg9
        have s9 := G2.size
        obtain ⟨y0, y1, y2, y3, y4, y5, y6, yf, yl⟩ := B2.seven
        have hx : x9 = 0 ∨ x9 = 1 := by omega
        rcases hx with rfl | rfl
        · have k2 := BS.cell 0 rfl
          have own := own_set own (own_ne' own (b := w6.heap.size) (by omega)) (o := 0) (.int .i64 (-1))
          have B1' := B1
          obtain ⟨z0_, z1_, z2_, z3_, z4_, z5_, z6_, zf_, zl_⟩ := B1.seven
          have hoZ := own_ne' own (b := w.heap.size) (by omega)
          have own9 := (own_set (own_set (own_set (own_set (own_set (own_set (own_set own hoZ (o := 0) (.int .i64 (-1))) hoZ (o := 1) (.int .i64 (1 + x2))) hoZ (o := 2) (.int .i64 x3)) hoZ (o := 3) (.int .i64 x4)) hoZ (o := 4) (.int .i64 x5)) hoZ (o := 5) (.int .i64 (1 + x6))) hoZ (o := 6) (.slice p ds.length c))
          clear B1 B2 own
          have h9 := ((((((((hr9.setb (b := w6.heap.size) (o := 0) hNM (.int .i64 (-1))).setb (b := w.heap.size) (o := 0) hNw (.int .i64 (-1))).setb (b := w.heap.size) (o := 1) hNw (.int .i64 (1 + x2))).setb (b := w.heap.size) (o := 2) hNw (.int .i64 x3)).setb (b := w.heap.size) (o := 3) hNw (.int .i64 x4)).setb (b := w.heap.size) (o := 4) hNw (.int .i64 x5)).setb (b := w.heap.size) (o := 5) hNw (.int .i64 (1 + x6))).setb (b := w.heap.size) (o := 6) hNw (.slice p ds.length c))
          have g9 := (only_setb (only_setb (only_setb (only_setb (only_setb (only_setb (only_setb (only_setb G2 (b := w6.heap.size) (o := 0) hZM (.int .i64 (-1))) (b := w.heap.size) (o := 0) (Nat.le_refl _) (.int .i64 (-1))) (b := w.heap.size) (o := 1) (Nat.le_refl _) (.int .i64 (1 + x2))) (b := w.heap.size) (o := 2) (Nat.le_refl _) (.int .i64 x3)) (b := w.heap.size) (o := 3) (Nat.le_refl _) (.int .i64 x4)) (b := w.heap.size) (o := 4) (Nat.le_refl _) (.int .i64 x5)) (b := w.heap.size) (o := 5) (Nat.le_refl _) (.int .i64 (1 + x6))) (b := w.heap.size) (o := 6) (Nat.le_refl _) (.slice p ds.length c))
          clear hr9 G2
          go_wp2
          exact bodyPost_ret (v := .agg #[.int .i64 (-1), .int .i64 (1 + x2), .int .i64 x3, .int .i64 x4, .int .i64 x5, .int .i64 (1 + x6), .slice p ds.length c]) (by simp [results, Try.results45, go_sem, *]) rfl ⟨⟨(-1), (1 + x2), x3, x4, x5, (1 + x6), ds⟩, p, c, (q8 + 1), rfl, by show ds.length ≤ 3; omega, own_base own9 (by omega), by omega, h9, g9⟩
        · have k2 := BS.cell 1 rfl
          have own := own_set own (own_ne' own (b := w6.heap.size) (by omega)) (o := 0) (.int .i64 6)
          have B1' := B1
          obtain ⟨z0_, z1_, z2_, z3_, z4_, z5_, z6_, zf_, zl_⟩ := B1.seven
          have hoZ := own_ne' own (b := w.heap.size) (by omega)
          have own9 := (own_set (own_set (own_set (own_set (own_set (own_set (own_set own hoZ (o := 0) (.int .i64 6)) hoZ (o := 1) (.int .i64 (1 + x2))) hoZ (o := 2) (.int .i64 x3)) hoZ (o := 3) (.int .i64 x4)) hoZ (o := 4) (.int .i64 x5)) hoZ (o := 5) (.int .i64 (1 + x6))) hoZ (o := 6) (.slice p ds.length c))
          clear B1 B2 own
          have h9 := ((((((((hr9.setb (b := w6.heap.size) (o := 0) hNM (.int .i64 6)).setb (b := w.heap.size) (o := 0) hNw (.int .i64 6)).setb (b := w.heap.size) (o := 1) hNw (.int .i64 (1 + x2))).setb (b := w.heap.size) (o := 2) hNw (.int .i64 x3)).setb (b := w.heap.size) (o := 3) hNw (.int .i64 x4)).setb (b := w.heap.size) (o := 4) hNw (.int .i64 x5)).setb (b := w.heap.size) (o := 5) hNw (.int .i64 (1 + x6))).setb (b := w.heap.size) (o := 6) hNw (.slice p ds.length c))
          have g9 := (only_setb (only_setb (only_setb (only_setb (only_setb (only_setb (only_setb (only_setb G2 (b := w6.heap.size) (o := 0) hZM (.int .i64 6)) (b := w.heap.size) (o := 0) (Nat.le_refl _) (.int .i64 6)) (b := w.heap.size) (o := 1) (Nat.le_refl _) (.int .i64 (1 + x2))) (b := w.heap.size) (o := 2) (Nat.le_refl _) (.int .i64 x3)) (b := w.heap.size) (o := 3) (Nat.le_refl _) (.int .i64 x4)) (b := w.heap.size) (o := 4) (Nat.le_refl _) (.int .i64 x5)) (b := w.heap.size) (o := 5) (Nat.le_refl _) (.int .i64 (1 + x6))) (b := w.heap.size) (o := 6) (Nat.le_refl _) (.slice p ds.length c))
          clear hr9 G2
          go_wp2
          exact bodyPost_ret (v := .agg #[.int .i64 6, .int .i64 (1 + x2), .int .i64 x3, .int .i64 x4, .int .i64 x5, .int .i64 (1 + x6), .slice p ds.length c]) (by simp [results, Try.results45, go_sem, *]) rfl ⟨⟨6, (1 + x2), x3, x4, x5, (1 + x6), ds⟩, p, c, (q8 + 1), rfl, by show ds.length ≤ 3; omega, own_base own9 (by omega), by omega, h9, g9⟩

      have e0' : (x8 == 0) = false := by simpa using e0
      by_cases e1 : x8 = 1
      · subst e1
        go_wp2_with fail
        refine (l72Stamp_any N g _ _ hr8 (by omega)).mono ?_
        rintro e w9 ⟨t, s, q9, rfl, ht1, ht2, hs1, hs2, hq9, hq10, hr9, hg9⟩
        have own := own_grown own hg9 (by omega)
        have B1 := B1.grown hg9 (by omega)
        have B2 := B2.grown hg9 (by omega)
        have G2 := grown_trans' G2 hg9
        have s9 := G2.size
        obtain ⟨y0, y1, y2, y3, y4, y5, y6, yf, yl⟩ := B2.seven
        have own := own_set own (own_ne' own (b := w6.heap.size) (by omega)) (o := 1) (.int .i64 t)
        have own := own_set own (own_ne' own (b := w6.heap.size) (by omega)) (o := 2) (.int .i64 s)
        obtain ⟨z0_, z1_, z2_, z3_, z4_, z5_, z6_, zf_, zl_⟩ := B1.seven
        have hoZ := own_ne' own (b := w.heap.size) (by omega)
        have own9 := (own_set (own_set (own_set (own_set (own_set (own_set (own_set own hoZ (o := 0) (.int .i64 x1)) hoZ (o := 1) (.int .i64 t)) hoZ (o := 2) (.int .i64 s)) hoZ (o := 3) (.int .i64 x4)) hoZ (o := 4) (.int .i64 x5)) hoZ (o := 5) (.int .i64 (1 + x6))) hoZ (o := 6) (.slice p ds.length c))
        clear B1 B2 own
        have h9 := (((((((((hr9.setb (b := w6.heap.size) (o := 1) hNM (.int .i64 t)).setb (b := w6.heap.size) (o := 2) hNM (.int .i64 s)).setb (b := w.heap.size) (o := 0) hNw (.int .i64 x1)).setb (b := w.heap.size) (o := 1) hNw (.int .i64 t)).setb (b := w.heap.size) (o := 2) hNw (.int .i64 s)).setb (b := w.heap.size) (o := 3) hNw (.int .i64 x4)).setb (b := w.heap.size) (o := 4) hNw (.int .i64 x5)).setb (b := w.heap.size) (o := 5) hNw (.int .i64 (1 + x6))).setb (b := w.heap.size) (o := 6) hNw (.slice p ds.length c))
        have g9 := (only_setb (only_setb (only_setb (only_setb (only_setb (only_setb (only_setb (only_setb (only_setb G2 (b := w6.heap.size) (o := 1) hZM (.int .i64 t)) (b := w6.heap.size) (o := 2) hZM (.int .i64 s)) (b := w.heap.size) (o := 0) (Nat.le_refl _) (.int .i64 x1)) (b := w.heap.size) (o := 1) (Nat.le_refl _) (.int .i64 t)) (b := w.heap.size) (o := 2) (Nat.le_refl _) (.int .i64 s)) (b := w.heap.size) (o := 3) (Nat.le_refl _) (.int .i64 x4)) (b := w.heap.size) (o := 4) (Nat.le_refl _) (.int .i64 x5)) (b := w.heap.size) (o := 5) (Nat.le_refl _) (.int .i64 (1 + x6))) (b := w.heap.size) (o := 6) (Nat.le_refl _) (.slice p ds.length c))
        clear hr9 G2
        go_wp2
        exact bodyPost_ret (v := .agg #[.int .i64 x1, .int .i64 t, .int .i64 s, .int .i64 x4, .int .i64 x5, .int .i64 (1 + x6), .slice p ds.length c]) (by simp [results, Try.results45, go_sem, *]) rfl ⟨⟨x1, t, s, x4, x5, (1 + x6), ds⟩, p, c, q9, rfl, by show ds.length ≤ 3; omega, own_base own9 (by omega), by omega, h9, g9⟩

      have e1' : (x8 == 1) = false := by simpa using e1
      by_cases e2 : x8 = 2
      · subst e2
        go_wp2_with fail
        have BS := Blk.new w8 #[.int .i64 (-1), .int .i64 9999, .int .i64 10000] 3
        have own := own.alloc (.cells #[.int .i64 (-1), .int .i64 9999, .int .i64 10000] 3)
        have B1 := B1.alloc (.cells #[.int .i64 (-1), .int .i64 9999, .int .i64 10000] 3)
        have B2 := B2.alloc (.cells #[.int .i64 (-1), .int .i64 9999, .int .i64 10000] 3)
        have G2 := only_alloc G2 (.cells #[.int .i64 (-1), .int .i64 9999, .int .i64 10000] 3)
        refine (pick_any 3 N g _ _ (hr8.alloc _) (by omega) (by omega) (by omega)).mono ?_
        rintro e w9 ⟨x9, rfl, h9a, h9b, hr9, hg9⟩
        have BS := BS.grown hg9 (by omega)
        have own := own_grown own hg9 (by omega)
        have B1 := B1.grown hg9 (by omega)
        have B2 := B2.grown hg9 (by omega)
        have G2 := grown_trans' G2 hg9
        have s9 := G2.size
        obtain ⟨y0, y1, y2, y3, y4, y5, y6, yf, yl⟩ := B2.seven
        have hx : x9 = 0 ∨ x9 = 1 ∨ x9 = 2 := by omega
        rcases hx with rfl | rfl | rfl
        · have k2 := BS.cell 0 rfl
          have own := own_set own (own_ne' own (b := w6.heap.size) (by omega)) (o := 3) (.int .i64 (-1))
          have B1' := B1
          obtain ⟨z0_, z1_, z2_, z3_, z4_, z5_, z6_, zf_, zl_⟩ := B1.seven
          have hoZ := own_ne' own (b := w.heap.size) (by omega)
          have own9 := (own_set (own_set (own_set (own_set (own_set (own_set (own_set own hoZ (o := 0) (.int .i64 x1)) hoZ (o := 1) (.int .i64 (1 + x2))) hoZ (o := 2) (.int .i64 x3)) hoZ (o := 3) (.int .i64 (-1))) hoZ (o := 4) (.int .i64 x5)) hoZ (o := 5) (.int .i64 (1 + x6))) hoZ (o := 6) (.slice p ds.length c))
          clear B1 B2 own
          have h9 := ((((((((hr9.setb (b := w6.heap.size) (o := 3) hNM (.int .i64 (-1))).setb (b := w.heap.size) (o := 0) hNw (.int .i64 x1)).setb (b := w.heap.size) (o := 1) hNw (.int .i64 (1 + x2))).setb (b := w.heap.size) (o := 2) hNw (.int .i64 x3)).setb (b := w.heap.size) (o := 3) hNw (.int .i64 (-1))).setb (b := w.heap.size) (o := 4) hNw (.int .i64 x5)).setb (b := w.heap.size) (o := 5) hNw (.int .i64 (1 + x6))).setb (b := w.heap.size) (o := 6) hNw (.slice p ds.length c))
          have g9 := (only_setb (only_setb (only_setb (only_setb (only_setb (only_setb (only_setb (only_setb G2 (b := w6.heap.size) (o := 3) hZM (.int .i64 (-1))) (b := w.heap.size) (o := 0) (Nat.le_refl _) (.int .i64 x1)) (b := w.heap.size) (o := 1) (Nat.le_refl _) (.int .i64 (1 + x2))) (b := w.heap.size) (o := 2) (Nat.le_refl _) (.int .i64 x3)) (b := w.heap.size) (o := 3) (Nat.le_refl _) (.int .i64 (-1))) (b := w.heap.size) (o := 4) (Nat.le_refl _) (.int .i64 x5)) (b := w.heap.size) (o := 5) (Nat.le_refl _) (.int .i64 (1 + x6))) (b := w.heap.size) (o := 6) (Nat.le_refl _) (.slice p ds.length c))
          clear hr9 G2
          go_wp2
          exact bodyPost_ret (v := .agg #[.int .i64 x1, .int .i64 (1 + x2), .int .i64 x3, .int .i64 (-1), .int .i64 x5, .int .i64 (1 + x6), .slice p ds.length c]) (by simp [results, Try.results45, go_sem, *]) rfl ⟨⟨x1, (1 + x2), x3, (-1), x5, (1 + x6), ds⟩, p, c, (q8 + 1), rfl, by show ds.length ≤ 3; omega, own_base own9 (by omega), by omega, h9, g9⟩
        · have k2 := BS.cell 1 rfl
          have own := own_set own (own_ne' own (b := w6.heap.size) (by omega)) (o := 3) (.int .i64 9999)
          have B1' := B1
          obtain ⟨z0_, z1_, z2_, z3_, z4_, z5_, z6_, zf_, zl_⟩ := B1.seven
          have hoZ := own_ne' own (b := w.heap.size) (by omega)
          have own9 := (own_set (own_set (own_set (own_set (own_set (own_set (own_set own hoZ (o := 0) (.int .i64 x1)) hoZ (o := 1) (.int .i64 (1 + x2))) hoZ (o := 2) (.int .i64 x3)) hoZ (o := 3) (.int .i64 9999)) hoZ (o := 4) (.int .i64 x5)) hoZ (o := 5) (.int .i64 (1 + x6))) hoZ (o := 6) (.slice p ds.length c))
          clear B1 B2 own
          have h9 := ((((((((hr9.setb (b := w6.heap.size) (o := 3) hNM (.int .i64 9999)).setb (b := w.heap.size) (o := 0) hNw (.int .i64 x1)).setb (b := w.heap.size) (o := 1) hNw (.int .i64 (1 + x2))).setb (b := w.heap.size) (o := 2) hNw (.int .i64 x3)).setb (b := w.heap.size) (o := 3) hNw (.int .i64 9999)).setb (b := w.heap.size) (o := 4) hNw (.int .i64 x5)).setb (b := w.heap.size) (o := 5) hNw (.int .i64 (1 + x6))).setb (b := w.heap.size) (o := 6) hNw (.slice p ds.length c))
          have g9 := (only_setb (only_setb (only_setb (only_setb (only_setb (only_setb (only_setb (only_setb G2 (b := w6.heap.size) (o := 3) hZM (.int .i64 9999)) (b := w.heap.size) (o := 0) (Nat.le_refl _) (.int .i64 x1)) (b := w.heap.size) (o := 1) (Nat.le_refl _) (.int .i64 (1 + x2))) (b := w.heap.size) (o := 2) (Nat.le_refl _) (.int .i64 x3)) (b := w.heap.size) (o := 3) (Nat.le_refl _) (.int .i64 9999)) (b := w.heap.size) (o := 4) (Nat.le_refl _) (.int .i64 x5)) (b := w.heap.size) (o := 5) (Nat.le_refl _) (.int .i64 (1 + x6))) (b := w.heap.size) (o := 6) (Nat.le_refl _) (.slice p ds.length c))
          clear hr9 G2
          go_wp2
          exact bodyPost_ret (v := .agg #[.int .i64 x1, .int .i64 (1 + x2), .int .i64 x3, .int .i64 9999, .int .i64 x5, .int .i64 (1 + x6), .slice p ds.length c]) (by simp [results, Try.results45, go_sem, *]) rfl ⟨⟨x1, (1 + x2), x3, 9999, x5, (1 + x6), ds⟩, p, c, (q8 + 1), rfl, by show ds.length ≤ 3; omega, own_base own9 (by omega), by omega, h9, g9⟩
        · have k2 := BS.cell 2 rfl
          have own := own_set own (own_ne' own (b := w6.heap.size) (by omega)) (o := 3) (.int .i64 10000)
          have B1' := B1
          obtain ⟨z0_, z1_, z2_, z3_, z4_, z5_, z6_, zf_, zl_⟩ := B1.seven
          have hoZ := own_ne' own (b := w.heap.size) (by omega)
          have own9 := (own_set (own_set (own_set (own_set (own_set (own_set (own_set own hoZ (o := 0) (.int .i64 x1)) hoZ (o := 1) (.int .i64 (1 + x2))) hoZ (o := 2) (.int .i64 x3)) hoZ (o := 3) (.int .i64 10000)) hoZ (o := 4) (.int .i64 x5)) hoZ (o := 5) (.int .i64 (1 + x6))) hoZ (o := 6) (.slice p ds.length c))
          clear B1 B2 own
          have h9 := ((((((((hr9.setb (b := w6.heap.size) (o := 3) hNM (.int .i64 10000)).setb (b := w.heap.size) (o := 0) hNw (.int .i64 x1)).setb (b := w.heap.size) (o := 1) hNw (.int .i64 (1 + x2))).setb (b := w.heap.size) (o := 2) hNw (.int .i64 x3)).setb (b := w.heap.size) (o := 3) hNw (.int .i64 10000)).setb (b := w.heap.size) (o := 4) hNw (.int .i64 x5)).setb (b := w.heap.size) (o := 5) hNw (.int .i64 (1 + x6))).setb (b := w.heap.size) (o := 6) hNw (.slice p ds.length c))
          have g9 := (only_setb (only_setb (only_setb (only_setb (only_setb (only_setb (only_setb (only_setb G2 (b := w6.heap.size) (o := 3) hZM (.int .i64 10000)) (b := w.heap.size) (o := 0) (Nat.le_refl _) (.int .i64 x1)) (b := w.heap.size) (o := 1) (Nat.le_refl _) (.int .i64 (1 + x2))) (b := w.heap.size) (o := 2) (Nat.le_refl _) (.int .i64 x3)) (b := w.heap.size) (o := 3) (Nat.le_refl _) (.int .i64 10000)) (b := w.heap.size) (o := 4) (Nat.le_refl _) (.int .i64 x5)) (b := w.heap.size) (o := 5) (Nat.le_refl _) (.int .i64 (1 + x6))) (b := w.heap.size) (o := 6) (Nat.le_refl _) (.slice p ds.length c))
          clear hr9 G2
          go_wp2
          exact bodyPost_ret (v := .agg #[.int .i64 x1, .int .i64 (1 + x2), .int .i64 x3, .int .i64 10000, .int .i64 x5, .int .i64 (1 + x6), .slice p ds.length c]) (by simp [results, Try.results45, go_sem, *]) rfl ⟨⟨x1, (1 + x2), x3, 10000, x5, (1 + x6), ds⟩, p, c, (q8 + 1), rfl, by show ds.length ≤ 3; omega, own_base own9 (by omega), by omega, h9, g9⟩

      have e2' : (x8 == 2) = false := by simpa using e2
      by_cases e3 : x8 = 3
      · subst e3
        go_wp2_with fail
        have BS := Blk.new w8 #[.int .i64 0, .int .i64 99, .int .i64 100] 3
        have own := own.alloc (.cells #[.int .i64 0, .int .i64 99, .int .i64 100] 3)
        have B1 := B1.alloc (.cells #[.int .i64 0, .int .i64 99, .int .i64 100] 3)
        have B2 := B2.alloc (.cells #[.int .i64 0, .int .i64 99, .int .i64 100] 3)
        have G2 := only_alloc G2 (.cells #[.int .i64 0, .int .i64 99, .int .i64 100] 3)
        refine (pick_any 3 N g _ _ (hr8.alloc _) (by omega) (by omega) (by omega)).mono ?_
        rintro e w9 ⟨x9, rfl, h9a, h9b, hr9, hg9⟩
        have BS := BS.grown hg9 (by omega)
        have own := own_grown own hg9 (by omega)
        have B1 := B1.grown hg9 (by omega)
        have B2 := B2.grown hg9 (by omega)
        have G2 := grown_trans' G2 hg9
        have s9 := G2.size
        obtain ⟨y0, y1, y2, y3, y4, y5, y6, yf, yl⟩ := B2.seven
        have hx : x9 = 0 ∨ x9 = 1 ∨ x9 = 2 := by omega
        rcases hx with rfl | rfl | rfl
        · have k2 := BS.cell 0 rfl
          have own := own_set own (own_ne' own (b := w6.heap.size) (by omega)) (o := 5) (.int .i64 0)
          have B1' := B1
          obtain ⟨z0_, z1_, z2_, z3_, z4_, z5_, z6_, zf_, zl_⟩ := B1.seven
          have hoZ := own_ne' own (b := w.heap.size) (by omega)
          have own9 := (own_set (own_set (own_set (own_set (own_set (own_set (own_set own hoZ (o := 0) (.int .i64 x1)) hoZ (o := 1) (.int .i64 (1 + x2))) hoZ (o := 2) (.int .i64 x3)) hoZ (o := 3) (.int .i64 x4)) hoZ (o := 4) (.int .i64 x5)) hoZ (o := 5) (.int .i64 0)) hoZ (o := 6) (.slice p ds.length c))
          clear B1 B2 own
          have h9 := ((((((((hr9.setb (b := w6.heap.size) (o := 5) hNM (.int .i64 0)).setb (b := w.heap.size) (o := 0) hNw (.int .i64 x1)).setb (b := w.heap.size) (o := 1) hNw (.int .i64 (1 + x2))).setb (b := w.heap.size) (o := 2) hNw (.int .i64 x3)).setb (b := w.heap.size) (o := 3) hNw (.int .i64 x4)).setb (b := w.heap.size) (o := 4) hNw (.int .i64 x5)).setb (b := w.heap.size) (o := 5) hNw (.int .i64 0)).setb (b := w.heap.size) (o := 6) hNw (.slice p ds.length c))
          have g9 := (only_setb (only_setb (only_setb (only_setb (only_setb (only_setb (only_setb (only_setb G2 (b := w6.heap.size) (o := 5) hZM (.int .i64 0)) (b := w.heap.size) (o := 0) (Nat.le_refl _) (.int .i64 x1)) (b := w.heap.size) (o := 1) (Nat.le_refl _) (.int .i64 (1 + x2))) (b := w.heap.size) (o := 2) (Nat.le_refl _) (.int .i64 x3)) (b := w.heap.size) (o := 3) (Nat.le_refl _) (.int .i64 x4)) (b := w.heap.size) (o := 4) (Nat.le_refl _) (.int .i64 x5)) (b := w.heap.size) (o := 5) (Nat.le_refl _) (.int .i64 0)) (b := w.heap.size) (o := 6) (Nat.le_refl _) (.slice p ds.length c))
          clear hr9 G2
          go_wp2
          exact bodyPost_ret (v := .agg #[.int .i64 x1, .int .i64 (1 + x2), .int .i64 x3, .int .i64 x4, .int .i64 x5, .int .i64 0, .slice p ds.length c]) (by simp [results, Try.results45, go_sem, *]) rfl ⟨⟨x1, (1 + x2), x3, x4, x5, 0, ds⟩, p, c, (q8 + 1), rfl, by show ds.length ≤ 3; omega, own_base own9 (by omega), by omega, h9, g9⟩
        · have k2 := BS.cell 1 rfl
          have own := own_set own (own_ne' own (b := w6.heap.size) (by omega)) (o := 5) (.int .i64 99)
          have B1' := B1
          obtain ⟨z0_, z1_, z2_, z3_, z4_, z5_, z6_, zf_, zl_⟩ := B1.seven
          have hoZ := own_ne' own (b := w.heap.size) (by omega)
          have own9 := (own_set (own_set (own_set (own_set (own_set (own_set (own_set own hoZ (o := 0) (.int .i64 x1)) hoZ (o := 1) (.int .i64 (1 + x2))) hoZ (o := 2) (.int .i64 x3)) hoZ (o := 3) (.int .i64 x4)) hoZ (o := 4) (.int .i64 x5)) hoZ (o := 5) (.int .i64 99)) hoZ (o := 6) (.slice p ds.length c))
          clear B1 B2 own
          have h9 := ((((((((hr9.setb (b := w6.heap.size) (o := 5) hNM (.int .i64 99)).setb (b := w.heap.size) (o := 0) hNw (.int .i64 x1)).setb (b := w.heap.size) (o := 1) hNw (.int .i64 (1 + x2))).setb (b := w.heap.size) (o := 2) hNw (.int .i64 x3)).setb (b := w.heap.size) (o := 3) hNw (.int .i64 x4)).setb (b := w.heap.size) (o := 4) hNw (.int .i64 x5)).setb (b := w.heap.size) (o := 5) hNw (.int .i64 99)).setb (b := w.heap.size) (o := 6) hNw (.slice p ds.length c))
          have g9 := (only_setb (only_setb (only_setb (only_setb (only_setb (only_setb (only_setb (only_setb G2 (b := w6.heap.size) (o := 5) hZM (.int .i64 99)) (b := w.heap.size) (o := 0) (Nat.le_refl _) (.int .i64 x1)) (b := w.heap.size) (o := 1) (Nat.le_refl _) (.int .i64 (1 + x2))) (b := w.heap.size) (o := 2) (Nat.le_refl _) (.int .i64 x3)) (b := w.heap.size) (o := 3) (Nat.le_refl _) (.int .i64 x4)) (b := w.heap.size) (o := 4) (Nat.le_refl _) (.int .i64 x5)) (b := w.heap.size) (o := 5) (Nat.le_refl _) (.int .i64 99)) (b := w.heap.size) (o := 6) (Nat.le_refl _) (.slice p ds.length c))
          clear hr9 G2
          go_wp2
          exact bodyPost_ret (v := .agg #[.int .i64 x1, .int .i64 (1 + x2), .int .i64 x3, .int .i64 x4, .int .i64 x5, .int .i64 99, .slice p ds.length c]) (by simp [results, Try.results45, go_sem, *]) rfl ⟨⟨x1, (1 + x2), x3, x4, x5, 99, ds⟩, p, c, (q8 + 1), rfl, by show ds.length ≤ 3; omega, own_base own9 (by omega), by omega, h9, g9⟩
        · have k2 := BS.cell 2 rfl
          have own := own_set own (own_ne' own (b := w6.heap.size) (by omega)) (o := 5) (.int .i64 100)
          have B1' := B1
          obtain ⟨z0_, z1_, z2_, z3_, z4_, z5_, z6_, zf_, zl_⟩ := B1.seven
          have hoZ := own_ne' own (b := w.heap.size) (by omega)
          have own9 := (own_set (own_set (own_set (own_set (own_set (own_set (own_set own hoZ (o := 0) (.int .i64 x1)) hoZ (o := 1) (.int .i64 (1 + x2))) hoZ (o := 2) (.int .i64 x3)) hoZ (o := 3) (.int .i64 x4)) hoZ (o := 4) (.int .i64 x5)) hoZ (o := 5) (.int .i64 100)) hoZ (o := 6) (.slice p ds.length c))
          clear B1 B2 own
          have h9 := ((((((((hr9.setb (b := w6.heap.size) (o := 5) hNM (.int .i64 100)).setb (b := w.heap.size) (o := 0) hNw (.int .i64 x1)).setb (b := w.heap.size) (o := 1) hNw (.int .i64 (1 + x2))).setb (b := w.heap.size) (o := 2) hNw (.int .i64 x3)).setb (b := w.heap.size) (o := 3) hNw (.int .i64 x4)).setb (b := w.heap.size) (o := 4) hNw (.int .i64 x5)).setb (b := w.heap.size) (o := 5) hNw (.int .i64 100)).setb (b := w.heap.size) (o := 6) hNw (.slice p ds.length c))
          have g9 := (only_setb (only_setb (only_setb (only_setb (only_setb (only_setb (only_setb (only_setb G2 (b := w6.heap.size) (o := 5) hZM (.int .i64 100)) (b := w.heap.size) (o := 0) (Nat.le_refl _) (.int .i64 x1)) (b := w.heap.size) (o := 1) (Nat.le_refl _) (.int .i64 (1 + x2))) (b := w.heap.size) (o := 2) (Nat.le_refl _) (.int .i64 x3)) (b := w.heap.size) (o := 3) (Nat.le_refl _) (.int .i64 x4)) (b := w.heap.size) (o := 4) (Nat.le_refl _) (.int .i64 x5)) (b := w.heap.size) (o := 5) (Nat.le_refl _) (.int .i64 100)) (b := w.heap.size) (o := 6) (Nat.le_refl _) (.slice p ds.length c))
          clear hr9 G2
          go_wp2
          exact bodyPost_ret (v := .agg #[.int .i64 x1, .int .i64 (1 + x2), .int .i64 x3, .int .i64 x4, .int .i64 x5, .int .i64 100, .slice p ds.length c]) (by simp [results, Try.results45, go_sem, *]) rfl ⟨⟨x1, (1 + x2), x3, x4, x5, 100, ds⟩, p, c, (q8 + 1), rfl, by show ds.length ≤ 3; omega, own_base own9 (by omega), by omega, h9, g9⟩

      have e3' : (x8 == 3) = false := by simpa using e3
      by_cases e4 : x8 = 4
      · subst e4
        go_wp2_with fail
        have BS := Blk.new w8 #[.int .i64 (-1), .int .i64 2] 3
        have own := own.alloc (.cells #[.int .i64 (-1), .int .i64 2] 3)
        have B1 := B1.alloc (.cells #[.int .i64 (-1), .int .i64 2] 3)
        have B2 := B2.alloc (.cells #[.int .i64 (-1), .int .i64 2] 3)
        have G2 := only_alloc G2 (.cells #[.int .i64 (-1), .int .i64 2] 3)
        refine (pick_any 2 N g _ _ (hr8.alloc _) (by omega) (by omega) (by omega)).mono ?_
        rintro e w9 ⟨x9, rfl, h9a, h9b, hr9, hg9⟩
        have BS := BS.grown hg9 (by omega)
        have own := own_grown own hg9 (by omega)
        have B1 := B1.grown hg9 (by omega)
        have B2 := B2.grown hg9 (by omega)
        have G2 := grown_trans' G2 hg9
        have s9 := G2.size
        obtain ⟨y0, y1, y2, y3, y4, y5, y6, yf, yl⟩ := B2.seven
        have hx : x9 = 0 ∨ x9 = 1 := by omega
        rcases hx with rfl | rfl
        · have k2 := BS.cell 0 rfl
          have own := own_set own (own_ne' own (b := w6.heap.size) (by omega)) (o := 4) (.int .i64 (-1))
          have B1' := B1
          obtain ⟨z0_, z1_, z2_, z3_, z4_, z5_, z6_, zf_, zl_⟩ := B1.seven
          have hoZ := own_ne' own (b := w.heap.size) (by omega)
          have own9 := (own_set (own_set (own_set (own_set (own_set (own_set (own_set own hoZ (o := 0) (.int .i64 x1)) hoZ (o := 1) (.int .i64 (1 + x2))) hoZ (o := 2) (.int .i64 x3)) hoZ (o := 3) (.int .i64 x4)) hoZ (o := 4) (.int .i64 (-1))) hoZ (o := 5) (.int .i64 (1 + x6))) hoZ (o := 6) (.slice p ds.length c))
          clear B1 B2 own
          have h9 := ((((((((hr9.setb (b := w6.heap.size) (o := 4) hNM (.int .i64 (-1))).setb (b := w.heap.size) (o := 0) hNw (.int .i64 x1)).setb (b := w.heap.size) (o := 1) hNw (.int .i64 (1 + x2))).setb (b := w.heap.size) (o := 2) hNw (.int .i64 x3)).setb (b := w.heap.size) (o := 3) hNw (.int .i64 x4)).setb (b := w.heap.size) (o := 4) hNw (.int .i64 (-1))).setb (b := w.heap.size) (o := 5) hNw (.int .i64 (1 + x6))).setb (b := w.heap.size) (o := 6) hNw (.slice p ds.length c))
          have g9 := (only_setb (only_setb (only_setb (only_setb (only_setb (only_setb (only_setb (only_setb G2 (b := w6.heap.size) (o := 4) hZM (.int .i64 (-1))) (b := w.heap.size) (o := 0) (Nat.le_refl _) (.int .i64 x1)) (b := w.heap.size) (o := 1) (Nat.le_refl _) (.int .i64 (1 + x2))) (b := w.heap.size) (o := 2) (Nat.le_refl _) (.int .i64 x3)) (b := w.heap.size) (o := 3) (Nat.le_refl _) (.int .i64 x4)) (b := w.heap.size) (o := 4) (Nat.le_refl _) (.int .i64 (-1))) (b := w.heap.size) (o := 5) (Nat.le_refl _) (.int .i64 (1 + x6))) (b := w.heap.size) (o := 6) (Nat.le_refl _) (.slice p ds.length c))
          clear hr9 G2
          go_wp2
          exact bodyPost_ret (v := .agg #[.int .i64 x1, .int .i64 (1 + x2), .int .i64 x3, .int .i64 x4, .int .i64 (-1), .int .i64 (1 + x6), .slice p ds.length c]) (by simp [results, Try.results45, go_sem, *]) rfl ⟨⟨x1, (1 + x2), x3, x4, (-1), (1 + x6), ds⟩, p, c, (q8 + 1), rfl, by show ds.length ≤ 3; omega, own_base own9 (by omega), by omega, h9, g9⟩
        · have k2 := BS.cell 1 rfl
          have own := own_set own (own_ne' own (b := w6.heap.size) (by omega)) (o := 4) (.int .i64 2)
          have B1' := B1
          obtain ⟨z0_, z1_, z2_, z3_, z4_, z5_, z6_, zf_, zl_⟩ := B1.seven
          have hoZ := own_ne' own (b := w.heap.size) (by omega)
          have own9 := (own_set (own_set (own_set (own_set (own_set (own_set (own_set own hoZ (o := 0) (.int .i64 x1)) hoZ (o := 1) (.int .i64 (1 + x2))) hoZ (o := 2) (.int .i64 x3)) hoZ (o := 3) (.int .i64 x4)) hoZ (o := 4) (.int .i64 2)) hoZ (o := 5) (.int .i64 (1 + x6))) hoZ (o := 6) (.slice p ds.length c))
          clear B1 B2 own
          have h9 := ((((((((hr9.setb (b := w6.heap.size) (o := 4) hNM (.int .i64 2)).setb (b := w.heap.size) (o := 0) hNw (.int .i64 x1)).setb (b := w.heap.size) (o := 1) hNw (.int .i64 (1 + x2))).setb (b := w.heap.size) (o := 2) hNw (.int .i64 x3)).setb (b := w.heap.size) (o := 3) hNw (.int .i64 x4)).setb (b := w.heap.size) (o := 4) hNw (.int .i64 2)).setb (b := w.heap.size) (o := 5) hNw (.int .i64 (1 + x6))).setb (b := w.heap.size) (o := 6) hNw (.slice p ds.length c))
          have g9 := (only_setb (only_setb (only_setb (only_setb (only_setb (only_setb (only_setb (only_setb G2 (b := w6.heap.size) (o := 4) hZM (.int .i64 2)) (b := w.heap.size) (o := 0) (Nat.le_refl _) (.int .i64 x1)) (b := w.heap.size) (o := 1) (Nat.le_refl _) (.int .i64 (1 + x2))) (b := w.heap.size) (o := 2) (Nat.le_refl _) (.int .i64 x3)) (b := w.heap.size) (o := 3) (Nat.le_refl _) (.int .i64 x4)) (b := w.heap.size) (o := 4) (Nat.le_refl _) (.int .i64 2)) (b := w.heap.size) (o := 5) (Nat.le_refl _) (.int .i64 (1 + x6))) (b := w.heap.size) (o := 6) (Nat.le_refl _) (.slice p ds.length c))
          clear hr9 G2
          go_wp2
          exact bodyPost_ret (v := .agg #[.int .i64 x1, .int .i64 (1 + x2), .int .i64 x3, .int .i64 x4, .int .i64 2, .int .i64 (1 + x6), .slice p ds.length c]) (by simp [results, Try.results45, go_sem, *]) rfl ⟨⟨x1, (1 + x2), x3, x4, 2, (1 + x6), ds⟩, p, c, (q8 + 1), rfl, by show ds.length ≤ 3; omega, own_base own9 (by omega), by omega, h9, g9⟩

      have e4' : (x8 == 4) = false := by simpa using e4
      obtain ⟨y0, y1, y2, y3, y4, y5, y6, yf, yl⟩ := B2.seven
      obtain ⟨z0_, z1_, z2_, z3_, z4_, z5_, z6_, zf_, zl_⟩ := B1.seven
      have hoZ := own_ne' own (b := w.heap.size) (by omega)
      have own9 := (own_set (own_set (own_set (own_set (own_set (own_set (own_set own hoZ (o := 0) (.int .i64 x1)) hoZ (o := 1) (.int .i64 (1 + x2))) hoZ (o := 2) (.int .i64 x3)) hoZ (o := 3) (.int .i64 x4)) hoZ (o := 4) (.int .i64 x5)) hoZ (o := 5) (.int .i64 (1 + x6))) hoZ (o := 6) (.slice p ds.length c))
      clear B1 B2 own
      have h9 := (((((((hr8.setb (b := w.heap.size) (o := 0) hNw (.int .i64 x1)).setb (b := w.heap.size) (o := 1) hNw (.int .i64 (1 + x2))).setb (b := w.heap.size) (o := 2) hNw (.int .i64 x3)).setb (b := w.heap.size) (o := 3) hNw (.int .i64 x4)).setb (b := w.heap.size) (o := 4) hNw (.int .i64 x5)).setb (b := w.heap.size) (o := 5) hNw (.int .i64 (1 + x6))).setb (b := w.heap.size) (o := 6) hNw (.slice p ds.length c))
      have g9 := (only_setb (only_setb (only_setb (only_setb (only_setb (only_setb (only_setb G2 (b := w.heap.size) (o := 0) (Nat.le_refl _) (.int .i64 x1)) (b := w.heap.size) (o := 1) (Nat.le_refl _) (.int .i64 (1 + x2))) (b := w.heap.size) (o := 2) (Nat.le_refl _) (.int .i64 x3)) (b := w.heap.size) (o := 3) (Nat.le_refl _) (.int .i64 x4)) (b := w.heap.size) (o := 4) (Nat.le_refl _) (.int .i64 x5)) (b := w.heap.size) (o := 5) (Nat.le_refl _) (.int .i64 (1 + x6))) (b := w.heap.size) (o := 6) (Nat.le_refl _) (.slice p ds.length c))
      clear hr8 G2
      go_wp2
      exact bodyPost_ret (v := .agg #[.int .i64 x1, .int .i64 (1 + x2), .int .i64 x3, .int .i64 x4, .int .i64 x5, .int .i64 (1 + x6), .slice p ds.length c]) (by simp [results, Try.results45, go_sem, *]) rfl ⟨⟨x1, (1 + x2), x3, x4, x5, (1 + x6), ds⟩, p, c, q8, rfl, by show ds.length ≤ 3; omega, own_base own9 (by omega), by omega, h9, g9⟩


end Go.Proofs.Ythciikogogkfcaa
