/- The draws of versions with a stamp, or with one more. -/
import Derived.Test.YtdheoaefmacamaaDrawC
import Derived.Deep.RegionHeld3
import Derived.Deep.RegionWith
namespace Go.Proofs.Ytdheoaefmacamaa
open Go.RowKit Go.Deep
set_option linter.unusedVariables false

theorem OwnVers.setb {N b o : Nat} {w : World} {v : Value} {l : List Mv} (h : OwnVers N w v l) (hb : b < N) (u : Value) : OwnVers N (w.setCell ⟨b, o, none⟩ u) v l :=
  ⟨own_set h.own (own_ne' h.own hb) u, h.inn.set hb u⟩
def DrawnChainKS (w : World) (e : Ending) (w' : World) : Prop := ∃ (l : List Mv) (a : Option Addr) (c : Nat) (q : Dp), e = .returned (.tuple #[.slice a l.length c, .int .i64 q.1, .agg #[.int .i64 q.2.1, .int .i64 q.2.2]]) ∧ l.length ≤ 140 ∧ Small l ∧ Vers w' a c l ∧ Below w.heap.size w w'
def DrawnChainVer (w : World) (e : Ending) (w' : World) : Prop := ∃ (l : List Mv) (a : Option Addr) (c : Nat) (m : Mv), e = .returned (.tuple #[.slice a l.length c, .agg #[.int .i64 m.v.key, .int .i64 m.v.time, .int .i64 m.v.site, .int .i64 m.v.val, .int .i64 m.v.client, .int .i64 m.v.call, .slice m.a m.v.deps.length m.c]]) ∧ l.length ≤ 140 ∧ Small l ∧ m.v.deps.length ≤ 3 ∧ Vers w' a c l ∧ Reads w' m.a m.v.deps.length m.c (dpsC m.v.deps) ∧ Below w.heap.size w w'

set_option maxRecDepth 100000 in
set_option maxHeartbeats 4000000 in
theorem DrawChainPut_any (a : Option Addr) (len cap : Nat) (w : World) (hb : BytesIn w a len cap) :
    Calls Try.prog 14 #[.slice a len cap] w (DrawnChainVer w) := by
  have BR := Blk.new w #[.int .i64 0, .int .i64 0, .int .i64 0, .int .i64 0, .int .i64 0, .int .i64 0, .slice none 0 0] 35
  have G0 := below_box w (.cells #[.int .i64 0, .int .i64 0, .int .i64 0, .int .i64 0, .int .i64 0, .int .i64 0, .slice none 0 0] 35)
  go_enter Try.func14, Try.ntmps14
  go_wp2_with fail
  refine (open_any a len cap _ (hb.alloc (.cells #[.int .i64 0, .int .i64 0, .int .i64 0, .int .i64 0, .int .i64 0, .int .i64 0, .slice none 0 0] 35))).mono ?_
  rintro e w1 ⟨rfl, hr1, hb1⟩
  simp only [World.size_alloc] at hr1
  have BR := BR.below hb1 BR.lt
  have G0 := below_after G0 hb1
  have hN := hr1.le
  go_wp2_with fail
  refine (l72Chain_any 9 _ _ _ _ hr1 (by omega) (by omega) (by omega)).mono ?_
  rintro e w2 ⟨v2, l2, q2, rfl, hl2, hs2, T2, hq2, hr2, hg2⟩
  obtain ⟨p2, c2, rfl, _⟩ := T2.open_
  have sz2 := hg2.size
  have BR := BR.grown hg2 (by omega)
  have G2 := below_grown G0 hg2 (by omega)
  by_cases h0 : 0 < l2.length
  · go_wp2_with fail
    refine (pick_any 4 _ _ _ _ hr2 (by omega) (by omega) (by omega)).mono ?_
    rintro e w3 ⟨x3, rfl, h3a, h3b, hr3, hg3⟩
    have T3 := T2.grown hg3 (by omega)
    have BR := BR.grown hg3 (by omega)
    have sz3 := hg3.size
    have G3 := below_grown G2 hg3 (by omega)
    by_cases c0 : x3 = 0
    · subst c0
      have hbd := (Below.refl w3.heap.size w3).drew
      have T3 := T3.below hbd
      have BR := BR.below hbd BR.lt
      have G3 := G3.drew
      have hr3 := hr3.below hbd
      clear hr2 hg2 hr1
      go_wp2_with fail
      go_region_with (first | (go_at_call 25; (with_reducible refine (pick_any l2.length _ _ _ _ hr3 (by omega) (by omega) (by omega)).mono ?_); rintro e w4 ⟨x4, rfl, h4a, h4b, hr4, hg4⟩; have T4 := T3.grown hg4 (by omega); have BR := BR.grown hg4 (by omega); have sz4 := hg4.size; have G4 := below_grown G3 hg4 (by omega); obtain ⟨j, rfl⟩ := Int.eq_ofNat_of_zero_le h4a; have hj : j < l2.length := (by omega); have hji : (j : Int) < (l2.length : Int) := (by omega); obtain ⟨b, off, hab, hbl, c0, c1, c2', c3, c4, c5, c6⟩ := T4.vers.at_ j hj; subst hab; obtain ⟨r0, r1, r2, r3, r4, r5, r6, rf, rl⟩ := BR.seven; have V4 := T4.vers; clear hr4 hg4))
      all_goals (
        have T9 := (((((((T4.setb (b := w.heap.size) (o := 0) (by omega) (.int .i64 l2[j].v.key)).setb (b := w.heap.size) (o := 1) (by omega) (.int .i64 l2[j].v.time)).setb (b := w.heap.size) (o := 2) (by omega) (.int .i64 l2[j].v.site)).setb (b := w.heap.size) (o := 3) (by omega) (.int .i64 l2[j].v.val)).setb (b := w.heap.size) (o := 4) (by omega) (.int .i64 l2[j].v.client)).setb (b := w.heap.size) (o := 5) (by omega) (.int .i64 l2[j].v.call)).setb (b := w.heap.size) (o := 6) (by omega) (.slice l2[j].a l2[j].v.deps.length l2[j].c))
        have G9 := (below_setb (below_setb (below_setb (below_setb (below_setb (below_setb (below_setb G4 (b := w.heap.size) (o := 0) (Nat.le_refl _) (.int .i64 l2[j].v.key)) (b := w.heap.size) (o := 1) (Nat.le_refl _) (.int .i64 l2[j].v.time)) (b := w.heap.size) (o := 2) (Nat.le_refl _) (.int .i64 l2[j].v.site)) (b := w.heap.size) (o := 3) (Nat.le_refl _) (.int .i64 l2[j].v.val)) (b := w.heap.size) (o := 4) (Nat.le_refl _) (.int .i64 l2[j].v.client)) (b := w.heap.size) (o := 5) (Nat.le_refl _) (.int .i64 l2[j].v.call)) (b := w.heap.size) (o := 6) (Nat.le_refl _) (.slice l2[j].a l2[j].v.deps.length l2[j].c))
        have V9 := T9.vers
        have R9 := T9.vers.get j hj
        clear T9 T4 T3
        go_wp2
        exact bodyPost_ret (v := .tuple #[.slice (some ⟨b, off, none⟩) l2.length c2, .agg #[.int .i64 l2[j].v.key, .int .i64 l2[j].v.time, .int .i64 l2[j].v.site, .int .i64 l2[j].v.val, .int .i64 l2[j].v.client, .int .i64 l2[j].v.call, .slice l2[j].a l2[j].v.deps.length l2[j].c]]) (by simp [results, Try.results14, go_sem, *]) rfl ⟨l2, _, c2, l2[j], rfl, hl2, hs2, hs2 _ (List.getElem_mem hj), V9, R9, G9⟩)
    · have c0' : (x3 == 0) = false := by simpa using c0
      go_wp2_with fail
      refine (l72Ver_any _ _ _ _ hr3 (by omega)).mono ?_
      rintro e w5 ⟨v5, p5, c5, q5, rfl, hd5, own5, hq5, hr5, hg5⟩
      have T := T3.grown hg5 (by omega)
      have BR := BR.grown hg5 (by omega)
      have G := below_grown G3 hg5 (by omega)
      have hoR := own_ne' own5 (b := w.heap.size) (by omega)
      have T9 := (((((((T.setb (b := w.heap.size) (o := 0) (by omega) (.int .i64 v5.key)).setb (b := w.heap.size) (o := 1) (by omega) (.int .i64 v5.time)).setb (b := w.heap.size) (o := 2) (by omega) (.int .i64 v5.site)).setb (b := w.heap.size) (o := 3) (by omega) (.int .i64 v5.val)).setb (b := w.heap.size) (o := 4) (by omega) (.int .i64 v5.client)).setb (b := w.heap.size) (o := 5) (by omega) (.int .i64 v5.call)).setb (b := w.heap.size) (o := 6) (by omega) (.slice p5 v5.deps.length c5))
      have own9 := (own_set (own_set (own_set (own_set (own_set (own_set (own_set own5 hoR (o := 0) (.int .i64 v5.key)) hoR (o := 1) (.int .i64 v5.time)) hoR (o := 2) (.int .i64 v5.site)) hoR (o := 3) (.int .i64 v5.val)) hoR (o := 4) (.int .i64 v5.client)) hoR (o := 5) (.int .i64 v5.call)) hoR (o := 6) (.slice p5 v5.deps.length c5))
      have G9 := (below_setb (below_setb (below_setb (below_setb (below_setb (below_setb (below_setb G (b := w.heap.size) (o := 0) (Nat.le_refl _) (.int .i64 v5.key)) (b := w.heap.size) (o := 1) (Nat.le_refl _) (.int .i64 v5.time)) (b := w.heap.size) (o := 2) (Nat.le_refl _) (.int .i64 v5.site)) (b := w.heap.size) (o := 3) (Nat.le_refl _) (.int .i64 v5.val)) (b := w.heap.size) (o := 4) (Nat.le_refl _) (.int .i64 v5.client)) (b := w.heap.size) (o := 5) (Nat.le_refl _) (.int .i64 v5.call)) (b := w.heap.size) (o := 6) (Nat.le_refl _) (.slice p5 v5.deps.length c5))
      obtain ⟨r0, r1, r2, r3, r4, r5, r6, rf, rl⟩ := BR.seven
      have V9 := T9.vers
      have R9 := Reads.own own9
      clear T9 own9 T own5 hr5 hg5
      go_wp2
      exact bodyPost_ret (v := .tuple #[.slice p2 l2.length c2, .agg #[.int .i64 v5.key, .int .i64 v5.time, .int .i64 v5.site, .int .i64 v5.val, .int .i64 v5.client, .int .i64 v5.call, .slice p5 v5.deps.length c5]]) (by simp [results, Try.results14, go_sem, *]) rfl ⟨l2, p2, c2, ⟨v5, p5, c5⟩, rfl, hl2, hs2, hd5, V9, R9, G9⟩
  · skip
    go_wp2_with fail
    refine (l72Ver_any _ _ _ _ hr2 (by omega)).mono ?_
    rintro e w5 ⟨v5, p5, c5, q5, rfl, hd5, own5, hq5, hr5, hg5⟩
    have T := T2.grown hg5 (by omega)
    have BR := BR.grown hg5 (by omega)
    have G := below_grown G2 hg5 (by omega)
    have hoR := own_ne' own5 (b := w.heap.size) (by omega)
    have T9 := (((((((T.setb (b := w.heap.size) (o := 0) (by omega) (.int .i64 v5.key)).setb (b := w.heap.size) (o := 1) (by omega) (.int .i64 v5.time)).setb (b := w.heap.size) (o := 2) (by omega) (.int .i64 v5.site)).setb (b := w.heap.size) (o := 3) (by omega) (.int .i64 v5.val)).setb (b := w.heap.size) (o := 4) (by omega) (.int .i64 v5.client)).setb (b := w.heap.size) (o := 5) (by omega) (.int .i64 v5.call)).setb (b := w.heap.size) (o := 6) (by omega) (.slice p5 v5.deps.length c5))
    have own9 := (own_set (own_set (own_set (own_set (own_set (own_set (own_set own5 hoR (o := 0) (.int .i64 v5.key)) hoR (o := 1) (.int .i64 v5.time)) hoR (o := 2) (.int .i64 v5.site)) hoR (o := 3) (.int .i64 v5.val)) hoR (o := 4) (.int .i64 v5.client)) hoR (o := 5) (.int .i64 v5.call)) hoR (o := 6) (.slice p5 v5.deps.length c5))
    have G9 := (below_setb (below_setb (below_setb (below_setb (below_setb (below_setb (below_setb G (b := w.heap.size) (o := 0) (Nat.le_refl _) (.int .i64 v5.key)) (b := w.heap.size) (o := 1) (Nat.le_refl _) (.int .i64 v5.time)) (b := w.heap.size) (o := 2) (Nat.le_refl _) (.int .i64 v5.site)) (b := w.heap.size) (o := 3) (Nat.le_refl _) (.int .i64 v5.val)) (b := w.heap.size) (o := 4) (Nat.le_refl _) (.int .i64 v5.client)) (b := w.heap.size) (o := 5) (Nat.le_refl _) (.int .i64 v5.call)) (b := w.heap.size) (o := 6) (Nat.le_refl _) (.slice p5 v5.deps.length c5))
    obtain ⟨r0, r1, r2, r3, r4, r5, r6, rf, rl⟩ := BR.seven
    have V9 := T9.vers
    have R9 := Reads.own own9
    clear T9 own9 T own5 hr5 hg5
    go_wp2
    exact bodyPost_ret (v := .tuple #[.slice p2 l2.length c2, .agg #[.int .i64 v5.key, .int .i64 v5.time, .int .i64 v5.site, .int .i64 v5.val, .int .i64 v5.client, .int .i64 v5.call, .slice p5 v5.deps.length c5]]) (by simp [results, Try.results14, go_sem, *]) rfl ⟨l2, p2, c2, ⟨v5, p5, c5⟩, rfl, hl2, hs2, hd5, V9, R9, G9⟩

end Go.Proofs.Ytdheoaefmacamaa
