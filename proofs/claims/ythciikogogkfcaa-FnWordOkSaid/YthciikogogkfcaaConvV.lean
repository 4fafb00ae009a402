/- Versions handed over, counted and compared by the laws' own functions. -/
import Derived.Test.YthciikogogkfcaaVerP
import Derived.Test.YthciikogogkfcaaConvD
namespace Go.Proofs.Ythciikogogkfcaa
open Go.RowKit Go.Deep
set_option linter.unusedVariables false

/-- A version comes back, its dependencies in memory of the callee's own. -/
def GivesVer (v : Vp) (w : World) (e : Ending) (w' : World) : Prop := ∃ (a : Option Addr) (c : Nat), e = .returned (.agg #[.int .i64 v.key, .int .i64 v.time, .int .i64 v.site, .int .i64 v.val, .int .i64 v.client, .int .i64 v.call, .slice a v.deps.length c]) ∧ w'.ownsRow w.heap.size 32 3 (.slice a v.deps.length c) v.deps.length (dpsC v.deps) ∧ Below w.heap.size w w'

set_option maxHeartbeats 400000 in
theorem szVer_laws (v : Vp) (left : Int) (a : Option Addr) (c : Nat) (w : World) (h0 : 0 ≤ left) (h1 : left ≤ 1048576) (hn : v.deps.length ≤ maxLen) :
    Calls Try.prog 56 #[.agg #[.int .i64 v.key, .int .i64 v.time, .int .i64 v.site, .int .i64 v.val, .int .i64 v.client, .int .i64 v.call, .slice a v.deps.length c], .int .i64 left] w fun e w' => e = .returned (.int .i64 (szR left v.deps.length)) ∧ Below w.heap.size w w' := by
  have BV := Blk.new w #[.int .i64 v.key, .int .i64 v.time, .int .i64 v.site, .int .i64 v.val, .int .i64 v.client, .int .i64 v.call, .slice a v.deps.length c] 91
  have G0 := below_box w (.cells #[.int .i64 v.key, .int .i64 v.time, .int .i64 v.site, .int .i64 v.val, .int .i64 v.client, .int .i64 v.call, .slice a v.deps.length c] 91)
  obtain ⟨p0, p1, p2, p3, p4, p5, p6, pf, pl⟩ := BV.seven
  go_enter Try.func56, Try.ntmps56
  go_wp2_with fail
  refine (szDepS_laws v.deps.length left a c _ h0 h1 hn).mono ?_
  rintro e w' ⟨rfl, rfl⟩
  by_cases h : left < (v.deps.length : Int)
  · have hz : szR left v.deps.length = -1 := by rw [szR, if_pos h]
    go_wp2
    go_ret
    exact ⟨by rw [hz]; rfl, G0⟩
  · have hz : 0 ≤ szR left v.deps.length := by rw [szR, if_neg h]; omega
    go_wp2
    go_ret
    exact ⟨rfl, G0⟩

set_option maxHeartbeats 2000000 in
theorem toVer_laws (v : Vp) (a : Option Addr) (c : Nat) (w : World) (hd : Reads w a v.deps.length c (dpsC v.deps)) (hl : v.deps.length ≤ 1048577) :
    Calls Try.prog 59 #[.agg #[.int .i64 v.key, .int .i64 v.time, .int .i64 v.site, .int .i64 v.val, .int .i64 v.client, .int .i64 v.call, .slice a v.deps.length c]] w (GivesVer v w) := by
  have C1 := ((Blk.new w #[.int .i64 v.key, .int .i64 v.time, .int .i64 v.site, .int .i64 v.val, .int .i64 v.client, .int .i64 v.call, .slice a v.deps.length c] 91).alloc (.cells #[.int .i64 0, .int .i64 0, .int .i64 0, .int .i64 0, .int .i64 0, .int .i64 0, .slice none 0 0] 27)).alloc (.cells #[.int .i64 v.key, .int .i64 0, .int .i64 0, .int .i64 0, .int .i64 0, .int .i64 0, .slice none 0 0] 27)
  have C2 := (Blk.new (w.alloc (.cells #[.int .i64 v.key, .int .i64 v.time, .int .i64 v.site, .int .i64 v.val, .int .i64 v.client, .int .i64 v.call, .slice a v.deps.length c] 91)) #[.int .i64 0, .int .i64 0, .int .i64 0, .int .i64 0, .int .i64 0, .int .i64 0, .slice none 0 0] 27).alloc (.cells #[.int .i64 v.key, .int .i64 0, .int .i64 0, .int .i64 0, .int .i64 0, .int .i64 0, .slice none 0 0] 27)
  have C3 := Blk.new ((w.alloc (.cells #[.int .i64 v.key, .int .i64 v.time, .int .i64 v.site, .int .i64 v.val, .int .i64 v.client, .int .i64 v.call, .slice a v.deps.length c] 91)).alloc (.cells #[.int .i64 0, .int .i64 0, .int .i64 0, .int .i64 0, .int .i64 0, .int .i64 0, .slice none 0 0] 27)) #[.int .i64 v.key, .int .i64 0, .int .i64 0, .int .i64 0, .int .i64 0, .int .i64 0, .slice none 0 0] 27
  simp only [World.size_alloc] at C2 C3
  have G := below_alloc (below_alloc (below_alloc (Below.refl _ w) (.cells #[.int .i64 v.key, .int .i64 v.time, .int .i64 v.site, .int .i64 v.val, .int .i64 v.client, .int .i64 v.call, .slice a v.deps.length c] 91)) (.cells #[.int .i64 0, .int .i64 0, .int .i64 0, .int .i64 0, .int .i64 0, .int .i64 0, .slice none 0 0] 27)) (.cells #[.int .i64 v.key, .int .i64 0, .int .i64 0, .int .i64 0, .int .i64 0, .int .i64 0, .slice none 0 0] 27)
  go_enter Try.func59, Try.ntmps59
  go_wp2_with fail
  refine (toStamp_laws _ _ _).mono ?_
  rintro e w1 ⟨rfl, hb1⟩
  have C1 := C1.below hb1 C1.lt
  have C2 := C2.below hb1 C2.lt
  have C3 := C3.below hb1 C3.lt
  have G1 := below_after G hb1
  have hd1 := hd.below G1
  obtain ⟨x0, x1, x2, x3, x4, x5, x6, xf, xl⟩ := C1.seven
  obtain ⟨k0, k1, k2, k3, k4, k5, k6, kf, kl⟩ := C3.seven
  have n1 : w.heap.size ≠ w.heap.size + 1 + 1 := by omega
  have n2 : w.heap.size + 1 ≠ w.heap.size + 1 + 1 := by omega
  have hle : w.heap.size ≤ w.heap.size + 1 + 1 := by omega
  have C1 := (((((C1.setb (b' := w.heap.size + 1 + 1) (o := 1) n1 (.int .i64 v.time)).setb (b' := w.heap.size + 1 + 1) (o := 2) n1 (.int .i64 v.site)).setb (b' := w.heap.size + 1 + 1) (o := 3) n1 (.int .i64 v.val)).setb (b' := w.heap.size + 1 + 1) (o := 4) n1 (.int .i64 v.client)).setb (b' := w.heap.size + 1 + 1) (o := 5) n1 (.int .i64 v.call))
  have C2 := (((((C2.setb (b' := w.heap.size + 1 + 1) (o := 1) n2 (.int .i64 v.time)).setb (b' := w.heap.size + 1 + 1) (o := 2) n2 (.int .i64 v.site)).setb (b' := w.heap.size + 1 + 1) (o := 3) n2 (.int .i64 v.val)).setb (b' := w.heap.size + 1 + 1) (o := 4) n2 (.int .i64 v.client)).setb (b' := w.heap.size + 1 + 1) (o := 5) n2 (.int .i64 v.call))
  have C3 := (((((C3.put1 (.int .i64 v.time)).put2 (.int .i64 v.site)).put3 (.int .i64 v.val)).put4 (.int .i64 v.client)).put5 (.int .i64 v.call))
  have G2 := (below_setb (below_setb (below_setb (below_setb (below_setb G1 (b := w.heap.size + 1 + 1) (o := 1) hle (.int .i64 v.time)) (b := w.heap.size + 1 + 1) (o := 2) hle (.int .i64 v.site)) (b := w.heap.size + 1 + 1) (o := 3) hle (.int .i64 v.val)) (b := w.heap.size + 1 + 1) (o := 4) hle (.int .i64 v.client)) (b := w.heap.size + 1 + 1) (o := 5) hle (.int .i64 v.call))
  go_wp2_with fail
  refine (toDepS_laws v.deps a c _ (hd.below G2) hl).mono ?_
  rintro e w2 ⟨u, rfl, own, hb2⟩
  obtain ⟨p, cc, rfl, rd⟩ := Reads.of_owns own
  have C2 := C2.below hb2 C2.lt
  have C3 := C3.below hb2 C3.lt
  have G3 := below_after G2 hb2
  have sz : w.heap.size + 1 + 1 < (((((w1.setCell ⟨w.heap.size + 1 + 1, 1, none⟩ (.int .i64 v.time)).setCell ⟨w.heap.size + 1 + 1, 2, none⟩ (.int .i64 v.site)).setCell ⟨w.heap.size + 1 + 1, 3, none⟩ (.int .i64 v.val)).setCell ⟨w.heap.size + 1 + 1, 4, none⟩ (.int .i64 v.client)).setCell ⟨w.heap.size + 1 + 1, 5, none⟩ (.int .i64 v.call)).heap.size := by simpa using kl
  have m3 := own_ne' own (b := w.heap.size + 1 + 1) sz
  have m2 := own_ne' own (b := w.heap.size + 1) (by omega)
  have own := own_base own (show w.heap.size ≤ _ by omega)
  have own := own_set own m3 (o := 6) (.slice p v.deps.length cc)
  have C2 := C2.setb (b' := w.heap.size + 1 + 1) (o := 6) n2 (.slice p v.deps.length cc)
  have C3' := C3.put6 (.slice p v.deps.length cc)
  have G4 := below_setb G3 (b := w.heap.size + 1 + 1) (o := 6) hle (.slice p v.deps.length cc)
  have own := (own_set (own_set (own_set (own_set (own_set (own_set (own_set own m2 (o := 0) (.int .i64 v.key)) m2 (o := 1) (.int .i64 v.time)) m2 (o := 2) (.int .i64 v.site)) m2 (o := 3) (.int .i64 v.val)) m2 (o := 4) (.int .i64 v.client)) m2 (o := 5) (.int .i64 v.call)) m2 (o := 6) (.slice p v.deps.length cc))
  have G5 := (below_setb (below_setb (below_setb (below_setb (below_setb (below_setb (below_setb G4 (b := w.heap.size + 1) (o := 0) (Nat.le_succ _) (.int .i64 v.key)) (b := w.heap.size + 1) (o := 1) (Nat.le_succ _) (.int .i64 v.time)) (b := w.heap.size + 1) (o := 2) (Nat.le_succ _) (.int .i64 v.site)) (b := w.heap.size + 1) (o := 3) (Nat.le_succ _) (.int .i64 v.val)) (b := w.heap.size + 1) (o := 4) (Nat.le_succ _) (.int .i64 v.client)) (b := w.heap.size + 1) (o := 5) (Nat.le_succ _) (.int .i64 v.call)) (b := w.heap.size + 1) (o := 6) (Nat.le_succ _) (.slice p v.deps.length cc))
  obtain ⟨y0, y1, y2, y3, y4, y5, y6, yf, yl⟩ := C2.seven
  obtain ⟨z0, z1, z2, z3, z4, z5, z6, zf, zl⟩ := C3.seven
  obtain ⟨u0, u1, u2, u3, u4, u5, u6, uf, ul⟩ := C3'.seven
  go_wp2
  exact bodyPost_ret (v := .agg #[.int .i64 v.key, .int .i64 v.time, .int .i64 v.site, .int .i64 v.val, .int .i64 v.client, .int .i64 v.call, .slice p v.deps.length cc]) (by simp [results, Try.results59, go_sem, *]) rfl ⟨p, cc, rfl, own, G5⟩

set_option maxHeartbeats 1000000 in
theorem eqVer_same (v : Vp) (a a' : Option Addr) (c c' : Nat) (w : World) (hr : Reads w a v.deps.length c (dpsC v.deps)) (hs : Reads w a' v.deps.length c' (dpsC v.deps)) :
    Calls Try.prog 19 #[.agg #[.int .i64 v.key, .int .i64 v.time, .int .i64 v.site, .int .i64 v.val, .int .i64 v.client, .int .i64 v.call, .slice a v.deps.length c], .agg #[.int .i64 v.key, .int .i64 v.time, .int .i64 v.site, .int .i64 v.val, .int .i64 v.client, .int .i64 v.call, .slice a' v.deps.length c']] w fun e w' => e = .returned (.bool true) ∧ Below w.heap.size w w' := by
  have G := below_box2 w (.cells #[.int .i64 v.key, .int .i64 v.time, .int .i64 v.site, .int .i64 v.val, .int .i64 v.client, .int .i64 v.call, .slice a v.deps.length c] 27) (.cells #[.int .i64 v.key, .int .i64 v.time, .int .i64 v.site, .int .i64 v.val, .int .i64 v.client, .int .i64 v.call, .slice a' v.deps.length c'] 27)
  have C1 := (Blk.new w #[.int .i64 v.key, .int .i64 v.time, .int .i64 v.site, .int .i64 v.val, .int .i64 v.client, .int .i64 v.call, .slice a v.deps.length c] 27).alloc (.cells #[.int .i64 v.key, .int .i64 v.time, .int .i64 v.site, .int .i64 v.val, .int .i64 v.client, .int .i64 v.call, .slice a' v.deps.length c'] 27)
  have C2 := Blk.new (w.alloc (.cells #[.int .i64 v.key, .int .i64 v.time, .int .i64 v.site, .int .i64 v.val, .int .i64 v.client, .int .i64 v.call, .slice a v.deps.length c] 27)) #[.int .i64 v.key, .int .i64 v.time, .int .i64 v.site, .int .i64 v.val, .int .i64 v.client, .int .i64 v.call, .slice a' v.deps.length c'] 27
  simp only [World.size_alloc] at C2
  go_enter Try.func19, Try.ntmps19
  go_wp2_with fail
  refine (eqStamp_same _ _ _).mono ?_
  rintro e w1 ⟨rfl, hb1⟩
  have C1 := C1.below hb1 C1.lt
  have C2 := C2.below hb1 C2.lt
  have G := below_after G hb1
  obtain ⟨x0, x1, x2, x3, x4, x5, x6, xf, xl⟩ := C1.seven
  obtain ⟨y0, y1, y2, y3, y4, y5, y6, yf, yl⟩ := C2.seven
  go_wp2_with fail
  refine (eqDepS_same v.deps a a' c c' _ (hr.below G) (hs.below G)).mono ?_
  rintro e w2 ⟨rfl, hb2⟩
  go_wp2
  go_ret
  exact ⟨rfl, below_after G hb2⟩

end Go.Proofs.Ythciikogogkfcaa
