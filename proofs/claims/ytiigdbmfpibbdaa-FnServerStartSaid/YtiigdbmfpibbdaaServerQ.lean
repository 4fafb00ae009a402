/- A server without versions, compared, marked and held by the laws' own functions. -/
import Derived.Test.YtiigdbmfpibbdaaStart
import Derived.Test.YtiigdbmfpibbdaaConvVS
namespace Go.Proofs.Ytiigdbmfpibbdaa
open Go.RowKit Go.Deep
set_option linter.unusedVariables false

theorem eqNoVers (w : World) : Calls Try.prog 39 #[.slice none 0 0, .slice none 0 0] w fun e w' => e = .returned (.bool true) ∧ Below w.heap.size w w' := eqVerS_same [] [] none none 0 0 w (Vers.nil w) (Vers.nil w) rfl
theorem reads_none (w : World) : Reads w none ([] : List Dp).length 0 (dpsC []) := ⟨Nat.le_refl _, by simp, fun h => absurd rfl h⟩
theorem eqNoDeps (w : World) : Calls Try.prog 24 #[.slice none 0 0, .slice none 0 0] w fun e w' => e = .returned (.bool true) ∧ Below w.heap.size w w' := eqDepS_same [] none none 0 0 w (reads_none w) (reads_none w)
set_option maxHeartbeats 2000000 in
theorem eqServer_same (site : Int) (up : Bool) (l : List (Int × Int)) (a a' : Option Addr) (c c' : Nat) (w : World) (hr : Reads w a l.length c (stsC l)) (hs : Reads w a' l.length c' (stsC l)) :
    Calls Try.prog 32 #[.agg #[.int .i64 site, .bool up, .slice a l.length c, .slice none 0 0, .slice none 0 0, .slice none 0 0, .slice none 0 0], .agg #[.int .i64 site, .bool up, .slice a' l.length c', .slice none 0 0, .slice none 0 0, .slice none 0 0, .slice none 0 0]] w fun e w' => e = .returned (.bool true) ∧ Below w.heap.size w w' := by
  have G := below_box2 w (.cells #[.int .i64 site, .bool up, .slice a l.length c, .slice none 0 0, .slice none 0 0, .slice none 0 0, .slice none 0 0] 46) (.cells #[.int .i64 site, .bool up, .slice a' l.length c', .slice none 0 0, .slice none 0 0, .slice none 0 0, .slice none 0 0] 46)
  have C1 := (Blk.new w #[.int .i64 site, .bool up, .slice a l.length c, .slice none 0 0, .slice none 0 0, .slice none 0 0, .slice none 0 0] 46).alloc (.cells #[.int .i64 site, .bool up, .slice a' l.length c', .slice none 0 0, .slice none 0 0, .slice none 0 0, .slice none 0 0] 46)
  have C2 := Blk.new (w.alloc (.cells #[.int .i64 site, .bool up, .slice a l.length c, .slice none 0 0, .slice none 0 0, .slice none 0 0, .slice none 0 0] 46)) #[.int .i64 site, .bool up, .slice a' l.length c', .slice none 0 0, .slice none 0 0, .slice none 0 0, .slice none 0 0] 46
  simp only [World.size_alloc] at C2
  go_enter Try.func32, Try.ntmps32
  cases up <;> (
    go_wp2_with fail
    refine (eqSlotS_same l a a' c c' _ (hr.below G) (hs.below G)).mono ?_
    rintro e w1 ⟨rfl, hb1⟩
    have C1 := C1.below hb1 C1.lt
    have C2 := C2.below hb1 C2.lt
    have G := below_after G hb1
    obtain ⟨x0, x1, x2, x3, x4, x5, x6, xf, xl⟩ := C1.seven
    obtain ⟨y0, y1, y2, y3, y4, y5, y6, yf, yl⟩ := C2.seven
    go_wp2_with fail
    refine (eqNoVers _).mono ?_
    rintro e w2 ⟨rfl, hb2⟩
    have C1 := C1.below hb2 C1.lt
    have C2 := C2.below hb2 C2.lt
    have G := below_after G hb2
    obtain ⟨x0, x1, x2, x3, x4, x5, x6, xf, xl⟩ := C1.seven
    obtain ⟨y0, y1, y2, y3, y4, y5, y6, yf, yl⟩ := C2.seven
    go_wp2_with fail
    refine (eqNoVers _).mono ?_
    rintro e w3 ⟨rfl, hb3⟩
    have C1 := C1.below hb3 C1.lt
    have C2 := C2.below hb3 C2.lt
    have G := below_after G hb3
    obtain ⟨x0, x1, x2, x3, x4, x5, x6, xf, xl⟩ := C1.seven
    obtain ⟨y0, y1, y2, y3, y4, y5, y6, yf, yl⟩ := C2.seven
    go_wp2_with fail
    refine (eqNoDeps _).mono ?_
    rintro e w4 ⟨rfl, hb4⟩
    have C1 := C1.below hb4 C1.lt
    have C2 := C2.below hb4 C2.lt
    have G := below_after G hb4
    obtain ⟨x0, x1, x2, x3, x4, x5, x6, xf, xl⟩ := C1.seven
    obtain ⟨y0, y1, y2, y3, y4, y5, y6, yf, yl⟩ := C2.seven
    go_wp2_with fail
    refine (eqNoDeps _).mono ?_
    rintro e w5 ⟨rfl, hb5⟩
    have G := below_after G hb5
    go_wp2
    go_ret
    exact ⟨rfl, G⟩)

theorem markNoVers (k : Int) (w : World) : Calls Try.prog 46 #[.slice none 0 0, .int .i64 k] w fun e w' => e = .returned (.int .i64 k) ∧ w = w' := by
  go_enter Try.func46, Try.ntmps46
  go_wp2
  go_loop [1, 5] (fun q i => q = .int .i64 k ∧ i = .int .i64 0) (fun _ _ => 0)
  case atStart => exact ⟨rfl, rfl⟩
  case round =>
    obtain ⟨rfl, rfl⟩ := hrel
    go_wp2
    go_ret
    exact ⟨rfl, rfl⟩

theorem heldNoVers (k : Int) (w : World) : Calls Try.prog 53 #[.slice none 0 0, .int .i64 k] w fun e w' => e = .returned (.int .i64 k) ∧ w = w' := by
  go_enter Try.func53, Try.ntmps53
  go_wp2
  go_loop [1, 5] (fun q i => q = .int .i64 k ∧ i = .int .i64 0) (fun _ _ => 0)
  case atStart => exact ⟨rfl, rfl⟩
  case round =>
    obtain ⟨rfl, rfl⟩ := hrel
    go_wp2
    go_ret
    exact ⟨rfl, rfl⟩

theorem markNoDeps (k : Int) (w : World) : Calls Try.prog 25 #[.slice none 0 0, .int .i64 k] w fun e w' => e = .returned (.int .i64 k) ∧ w = w' := by
  go_enter Try.func25, Try.ntmps25
  go_wp2
  go_loop [1, 5] (fun q i => q = .int .i64 k ∧ i = .int .i64 0) (fun _ _ => 0)
  case atStart => exact ⟨rfl, rfl⟩
  case round =>
    obtain ⟨rfl, rfl⟩ := hrel
    go_wp2
    go_ret
    exact ⟨rfl, rfl⟩

theorem heldNoDeps (k : Int) (w : World) : Calls Try.prog 26 #[.slice none 0 0, .int .i64 k] w fun e w' => e = .returned (.int .i64 k) ∧ w = w' := by
  go_enter Try.func26, Try.ntmps26
  go_wp2
  go_loop [1, 5] (fun q i => q = .int .i64 k ∧ i = .int .i64 0) (fun _ _ => 0)
  case atStart => exact ⟨rfl, rfl⟩
  case round =>
    obtain ⟨rfl, rfl⟩ := hrel
    go_wp2
    go_ret
    exact ⟨rfl, rfl⟩

/-- A server's slots have been marked. -/
def MarkedSv (N : Nat) (a : Option Addr) (n c : Nat) (k : Int) (w : World) (e : Ending) (w' : World) : Prop :=
  e = .returned (.int .i64 (k + 2 * (n : Int))) ∧ w'.ownsRow N 101 2 (.slice a n c) n (stsC (marksS k n)) ∧ w.grownBy w' (Value.slice a n c).ownBlock
set_option maxHeartbeats 2000000 in
theorem markServer_laws (site : Int) (up : Bool) (n : Nat) (k : Int) (a : Option Addr) (c N : Nat) (xs : List Value) (w : World) (own : w.ownsRow N 101 2 (.slice a n c) n xs) (h0 : 0 ≤ k) (h1 : k ≤ 1000000000) (hn : n ≤ 1048577) :
    Calls Try.prog 33 #[.agg #[.int .i64 site, .bool up, .slice a n c, .slice none 0 0, .slice none 0 0, .slice none 0 0, .slice none 0 0], .int .i64 k] w (MarkedSv N a n c k w) := by
  have C1 := Blk.new w #[.int .i64 site, .bool up, .slice a n c, .slice none 0 0, .slice none 0 0, .slice none 0 0, .slice none 0 0] 46
  have hbx := below_box w (.cells #[.int .i64 site, .bool up, .slice a n c, .slice none 0 0, .slice none 0 0, .slice none 0 0, .slice none 0 0] 46)
  have hne : (Value.slice a n c).ownBlock ≠ some w.heap.size := own_ne own (Nat.le_refl _)
  have own1 := own_below own hbx
  obtain ⟨x0, x1, x2, x3, x4, x5, x6, xf, xl⟩ := C1.seven
  go_enter Try.func33, Try.ntmps33
  go_wp2_with fail
  refine (markSlotS_laws n k a c N xs _ own1 h0 h1 hn).mono ?_
  rintro e w1 ⟨rfl, own2, hg⟩
  have C1 := C1.row hg hne
  have hg1 := grown_trans' (grown_of_below hbx _) hg
  obtain ⟨y0, y1, y2, y3, y4, y5, y6, yf, yl⟩ := C1.seven
  go_wp2_with fail
  refine (markNoVers _ _).mono ?_
  rintro e w' ⟨rfl, rfl⟩
  go_wp2_with fail
  refine (markNoVers _ _).mono ?_
  rintro e w' ⟨rfl, rfl⟩
  go_wp2_with fail
  refine (markNoDeps _ _).mono ?_
  rintro e w' ⟨rfl, rfl⟩
  go_wp2_with fail
  refine (markNoDeps _ _).mono ?_
  rintro e w' ⟨rfl, rfl⟩
  go_wp2
  go_ret
  exact ⟨rfl, own2, hg1⟩
set_option maxHeartbeats 2000000 in
theorem heldServer_laws (site : Int) (up : Bool) (n : Nat) (k : Int) (a : Option Addr) (c : Nat) (w : World) (hr : Reads w a n c (stsC (marksS k n))) (h0 : 0 ≤ k) (h1 : k ≤ 1000000000) (hn : n ≤ 1048577) :
    Calls Try.prog 34 #[.agg #[.int .i64 site, .bool up, .slice a n c, .slice none 0 0, .slice none 0 0, .slice none 0 0, .slice none 0 0], .int .i64 k] w fun e w' => e = .returned (.int .i64 (k + 2 * (n : Int))) ∧ Below w.heap.size w w' := by
  have C1 := Blk.new w #[.int .i64 site, .bool up, .slice a n c, .slice none 0 0, .slice none 0 0, .slice none 0 0, .slice none 0 0] 46
  have G := below_box w (.cells #[.int .i64 site, .bool up, .slice a n c, .slice none 0 0, .slice none 0 0, .slice none 0 0, .slice none 0 0] 46)
  have hk0 : 0 ≤ k + 2 * (n : Int) := by omega
  obtain ⟨x0, x1, x2, x3, x4, x5, x6, xf, xl⟩ := C1.seven
  go_enter Try.func34, Try.ntmps34
  go_wp2_with fail
  refine (heldSlotS_laws n k a c _ (hr.below G) h0 h1 hn).mono ?_
  rintro e w' ⟨rfl, rfl⟩
  go_wp2_with fail
  refine (heldNoVers _ _).mono ?_
  rintro e w' ⟨rfl, rfl⟩
  go_wp2_with fail
  refine (heldNoVers _ _).mono ?_
  rintro e w' ⟨rfl, rfl⟩
  go_wp2_with fail
  refine (heldNoDeps _ _).mono ?_
  rintro e w' ⟨rfl, rfl⟩
  go_wp2_with fail
  refine (heldNoDeps _ _).mono ?_
  rintro e w' ⟨rfl, rfl⟩
  go_wp2
  go_ret
  exact ⟨rfl, G⟩

end Go.Proofs.Ytiigdbmfpibbdaa
