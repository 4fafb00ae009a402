/- What a server owns at its start. -/
import Derived.Test.YtiigdbmfpibbdaaServerQ
import Derived.Test.YtiigdbmfpibbdaaChainW4
import Derived.Test.YtiigdbmfpibbdaaLi
import Derived.Test.YtiigdbmfpibbdaaDraw1
namespace Go.Proofs.Ytiigdbmfpibbdaa
open Go.RowKit Go.Deep
set_option linter.unusedVariables false

theorem chainOk_none (w : World) : Calls Try.prog 38 #[.slice none 0 0] w fun e w' => e = .returned (.bool true) ∧ Below w.heap.size w w' :=
  ChainOk_impl [] none 0 w (Vers.nil w) ⟨by simp, fun m h => by simp at h⟩
theorem hasAll_none (w : World) : Calls Try.prog 89 #[.slice none 0 0, .slice none 0 0] w fun e w' => e = .returned (.bool true) ∧ Below w.heap.size w w' :=
  hasAll_impl [] none 0 [] none 0 w (Vers.nil w) (by simp) (reads_none w)
theorem debtsOk_none (w : World) : Calls Try.prog 105 #[.slice none 0 0] w fun e w' => e = .returned (.bool true) ∧ w = w' := by
  go_enter Try.func105, Try.ntmps105
  go_wp2
  go_loop [7] (fun i => i = .int .i64 0) (fun _ => 0)
  case atStart => exact rfl
  case round =>
    obtain rfl := hrel
    go_wp2
    go_ret
    exact ⟨rfl, rfl⟩
theorem startF_get (site : Int) (j : Nat) (h : j < 3) : (startF site 3)[j]'(by rw [startF_len]; exact h) = if (j : Int) % 2 = site % 2 then (1, 1) else (0, 0) := by simp [startF]
/-- Does a server own a key's slot at its start? -/
def ownsS (site key : Int) : Bool := decide (verSlotI key % 2 = site % 2)
theorem ownsS_turn {site key : Int} : ownsS (site + 1) key = !ownsS site key := by
  unfold ownsS
  by_cases h : verSlotI key % 2 = site % 2
  · rw [decide_eq_true h, decide_eq_false (by omega)]; rfl
  · rw [decide_eq_false h, decide_eq_true (by omega)]; rfl
def slotV (site : Int) (j : Nat) : Int := if (j : Int) % 2 = site % 2 then 1 else 0
theorem startF_slot (site : Int) (j : Nat) (h : j < 3) : (startF site 3)[j]'(by rw [startF_len]; exact h) = (slotV site j, slotV site j) := by
  rw [startF_get site j h, slotV]; split <;> rfl
theorem start_cells {w : World} {site : Int} {p : Option Addr} {c : Nat} (hr : Reads w p 3 c (stsC (startF site 3))) (j : Nat) (h : j < 3) : ∃ b off, p = some ⟨b, off, none⟩ ∧ b < w.heap.size ∧
    w.cell? ⟨b, off + j * 2, none⟩ = some (.int .i64 (slotV site j)) ∧ w.cell? ⟨b, off + j * 2 + 1, none⟩ = some (.int .i64 (slotV site j)) := by
  obtain ⟨_, _, h3⟩ := hr
  have hl := startF_len site 3
  obtain ⟨b, off, rfl, hbl, hcell⟩ := h3 (stsC_ne (by omega))
  obtain ⟨g0, g1⟩ := stsC_get (startF site 3) j (by omega)
  rw [startF_slot site j h] at g0 g1
  exact ⟨b, off, rfl, hbl, hcell _ _ g0, by rw [Nat.add_assoc]; exact hcell _ _ g1⟩
theorem slot_of {key : Int} (h : inB key 0 5 = true) : ∃ j : Nat, j < 3 ∧ verSlotI key = (j : Int) := by
  have hb := inB_iff.1 h
  refine ⟨(key * 3 / 6).toNat, by omega, ?_⟩
  rw [verSlotI, if_pos h]; omega

set_option maxHeartbeats 1000000 in
theorem stand_start (site key : Int) (j : Nat) (p : Option Addr) (c : Nat) (w : World) (hr : Reads w p 3 c (stsC (startF site 3))) (hj : j < 3) (hk : verSlotI key = (j : Int)) :
    Calls Try.prog 110 #[.agg #[.int .i64 site, .bool true, .slice p 3 c, .slice none 0 0, .slice none 0 0, .slice none 0 0, .slice none 0 0], .int .i64 key] w fun e w' => e = .returned (.int .i64 (slotV site j)) ∧ Below w.heap.size w w' := by
  have BV := Blk.new w #[.int .i64 site, .bool true, .slice p 3 c, .slice none 0 0, .slice none 0 0, .slice none 0 0, .slice none 0 0] 46
  have G0 := below_box w (.cells #[.int .i64 site, .bool true, .slice p 3 c, .slice none 0 0, .slice none 0 0, .slice none 0 0, .slice none 0 0] 46)
  obtain ⟨x0, x1, x2, x3, x4, x5, x6, xf, xl⟩ := BV.seven
  obtain ⟨b, off, hpb, hblw, d0, d1⟩ := start_cells hr j hj
  subst hpb
  obtain ⟨b2, off2, hpb2, hbl, c0, c1⟩ := start_cells (hr.below G0) j hj
  simp only [Option.some.injEq, Addr.mk.injEq, and_true] at hpb2
  obtain ⟨rfl, rfl⟩ := hpb2
  have hi0 : (0 : Int) ≤ (j : Int) := by omega
  have hi1 : (j : Int) < 3 := by omega
  have hvs := fun W => verSlot_impl key W
  rw [hk] at hvs
  clear hk
  have HVS := Lib.hid hvs
  clear hvs
  go_enter Try.func110, Try.ntmps110
  go_wp2
  refine region_over (by kernel_rfl) (by kernel_rfl) ?_
  repeat (go_big_quiet_step (first | (go_at_call 126; exact quiet_over_same (HVS.out _))))
  refine wpQuiet_nil ?_
  intro w1 hb1
  go_wp2
  go_ret
  exact ⟨rfl, below_after G0 hb1⟩

theorem slot_one (site : Int) (j : Nat) : decide (slotV site j = 1) = decide ((j : Int) % 2 = site % 2) := by
  unfold slotV
  by_cases h : (j : Int) % 2 = site % 2
  · rw [if_pos h, decide_eq_true h]; rfl
  · rw [if_neg h, decide_eq_false h]; rfl
set_option maxHeartbeats 1000000 in
theorem owns_start (site key : Int) (p : Option Addr) (c : Nat) (w : World) (hr : Reads w p 3 c (stsC (startF site 3))) (hin : inB key 0 5 = true) :
    Calls Try.prog 78 #[.agg #[.int .i64 site, .bool true, .slice p 3 c, .slice none 0 0, .slice none 0 0, .slice none 0 0, .slice none 0 0], .int .i64 key] w fun e w' => e = .returned (.bool (ownsS site key)) ∧ Below w.heap.size w w' := by
  obtain ⟨j, hj, hk⟩ := slot_of hin
  have HR : Hid (ownsS site key = decide (slotV site j = 1)) := by show _ = _; rw [slot_one, ownsS, hk]
  have HK := Lib.hid hk
  clear hk
  have BV := Blk.new w #[.int .i64 site, .bool true, .slice p 3 c, .slice none 0 0, .slice none 0 0, .slice none 0 0, .slice none 0 0] 46
  have G0 := below_box w (.cells #[.int .i64 site, .bool true, .slice p 3 c, .slice none 0 0, .slice none 0 0, .slice none 0 0, .slice none 0 0] 46)
  obtain ⟨x0, x1, x2, x3, x4, x5, x6, xf, xl⟩ := BV.seven
  go_enter Try.func78, Try.ntmps78
  go_wp2_with fail
  refine (isKey_impl _ _).mono ?_
  rintro e w' ⟨rfl, rfl⟩
  go_wp2_with fail
  refine (stand_start site key j p c _ (hr.below G0) hj HK.out).mono ?_
  rintro e w1 ⟨rfl, hb1⟩
  by_cases hs : slotV site j = 1
  · have hs' : (slotV site j == 1) = true := by simpa using hs
    have HT : Hid (ownsS site key = true) := by show _ = _; rw [HR.out, decide_eq_true hs]
    clear hs
    go_wp2
    go_ret
    exact ⟨by rw [HT.out]; rfl, below_after G0 hb1⟩
  · have hs' : (slotV site j == 1) = false := by simpa using hs
    have HT : Hid (ownsS site key = false) := by show _ = _; rw [HR.out, decide_eq_false hs]
    clear hs
    go_wp2
    go_ret
    exact ⟨by rw [HT.out]; rfl, below_after G0 hb1⟩

theorem slotV_ok (site : Int) (j : Nat) : inB (slotV site j) 0 9999 = true ∧ inB (slotV site j) 0 2 = true := by
  unfold slotV; split <;> exact ⟨rfl, rfl⟩
set_option maxRecDepth 100000 in
set_option maxHeartbeats 4000000 in
theorem ServerOk_start (site : Int) (p : Option Addr) (c : Nat) (w : World) (hr : Reads w p 3 c (stsC (startF site 3))) (hin : inB site 0 3 = true) :
    Calls Try.prog 62 #[.agg #[.int .i64 site, .bool true, .slice p 3 c, .slice none 0 0, .slice none 0 0, .slice none 0 0, .slice none 0 0]] w fun e w' => e = .returned (.bool true) ∧ Below w.heap.size w w' := by
  have BV := Blk.new w #[.int .i64 site, .bool true, .slice p 3 c, .slice none 0 0, .slice none 0 0, .slice none 0 0, .slice none 0 0] 46
  have G0 := below_box w (.cells #[.int .i64 site, .bool true, .slice p 3 c, .slice none 0 0, .slice none 0 0, .slice none 0 0, .slice none 0 0] 46)
  go_enter Try.func62, Try.ntmps62
  obtain ⟨p10, p11, p12, p13, p14, p15, p16, p1f, p1l⟩ := BV.seven
  go_wp2_with fail
  refine (isSite_impl _ _).mono ?_
  rintro e w' ⟨rfl, rfl⟩
  obtain ⟨p20, p21, p22, p23, p24, p25, p26, p2f, p2l⟩ := BV.seven
  go_wp2_with fail
  refine (chainOk_none _).mono ?_
  rintro e w2 ⟨rfl, hb2⟩
  have BV := BV.below hb2 BV.lt
  have G0 := below_after G0 hb2
  obtain ⟨p30, p31, p32, p33, p34, p35, p36, p3f, p3l⟩ := BV.seven
  go_wp2_with fail
  refine (chainOk_none _).mono ?_
  rintro e w3 ⟨rfl, hb3⟩
  have BV := BV.below hb3 BV.lt
  have G0 := below_after G0 hb3
  obtain ⟨p40, p41, p42, p43, p44, p45, p46, p4f, p4l⟩ := BV.seven
  go_wp2_with fail
  refine (debtsOk_none _).mono ?_
  rintro e w' ⟨rfl, rfl⟩
  obtain ⟨p50, p51, p52, p53, p54, p55, p56, p5f, p5l⟩ := BV.seven
  go_wp2_with fail
  refine (debtsOk_none _).mono ?_
  rintro e w' ⟨rfl, rfl⟩
  obtain ⟨z0, z1, z2, z3, z4, z5, z6, zf, zl⟩ := BV.seven
  go_wp2
  go_loopw [57] (fun i wr => ∃ k : Nat, k ≤ 3 ∧ i = .int .i64 k ∧ Blk wr w.heap.size #[.int .i64 site, .bool true, .slice p 3 c, .slice none 0 0, .slice none 0 0, .slice none 0 0, .slice none 0 0] 46 ∧ Below w.heap.size w wr) (fun i _ => 3 - (intOf i).toNat)
  case atStart => exact ⟨0, by omega, rfl, BV, G0⟩
  case round =>
    obtain ⟨k, hk, rfl, BV, hBw⟩ := hrel
    by_cases hlt : k < 3
    · obtain ⟨b, off, rfl, hbl, c0, c1⟩ := start_cells (hr.below hBw) k hlt
      have hi0 : (0 : Int) ≤ (k : Int) := by omega
      have hi1 : (k : Int) < 3 := by omega
      obtain ⟨v1, v2⟩ := slotV_ok site k
      have BV := BV.alloc (.cells #[.int .i64 (slotV site k), .int .i64 (slotV site k)] 101)
      have BE := Blk.new wr #[.int .i64 (slotV site k), .int .i64 (slotV site k)] 101
      have G1 := below_alloc hBw (.cells #[.int .i64 (slotV site k), .int .i64 (slotV site k)] 101)
      obtain ⟨e0, e1, ef, el⟩ := BE.two
      obtain ⟨y0, y1, y2, y3, y4, y5, y6, yf, yl⟩ := BV.seven
      go_wp2_with fail
      refine (in_impl _ _ _ _).mono ?_
      rintro e w' ⟨rfl, rfl⟩
      go_wp2_with fail
      refine (in_impl _ _ _ _).mono ?_
      rintro e w' ⟨rfl, rfl⟩
      by_cases hs : slotV site k = 0
      · have hs1 : (slotV site k != 0) = false := by simpa using hs
        clear hs
        go_wp2
        go_roundw
        case rel => exact ⟨k + 1, by omega, by go_num, BV, G1⟩
        case measure => simp [intOf]; omega
      · have hs1 : (slotV site k != 0) = true := by simpa using hs
        have hs2 : (slotV site k == 0) = false := by simpa using hs
        clear hs
        go_wp2
        go_roundw
        case rel => exact ⟨k + 1, by omega, by go_num, BV, G1⟩
        case measure => simp [intOf]; omega
    · obtain rfl : k = 3 := by omega
      obtain ⟨x0, x1, x2, x3, x4, x5, x6, xf, xl⟩ := BV.seven
      go_wp2
      go_loop [85] (fun i => i = .int .i64 0) (fun _ => 0)
      case atStart => exact rfl
      case round =>
        obtain rfl := hrel
        go_wp2
        go_loop [98] (fun i => i = .int .i64 0) (fun _ => 0)
        case atStart => exact rfl
        case round =>
          obtain rfl := hrel
          go_wp2_with fail
          refine (hasAll_none _).mono ?_
          rintro e w9 ⟨rfl, hb9⟩
          go_wp2
          go_ret
          exact ⟨rfl, below_after hBw hb9⟩
set_option maxHeartbeats 1000000 in
theorem ServerOwns_start (site key : Int) (p : Option Addr) (c : Nat) (w : World) (hr : Reads w p 3 c (stsC (startF site 3))) (hin : inB site 0 3 = true) (hik : inB key 0 5 = true) :
    Calls Try.prog 31 #[.agg #[.int .i64 site, .bool true, .slice p 3 c, .slice none 0 0, .slice none 0 0, .slice none 0 0, .slice none 0 0], .int .i64 key] w fun e w' => e = .returned (.bool (ownsS site key)) ∧ Below w.heap.size w w' := by
  have BV := Blk.new w #[.int .i64 site, .bool true, .slice p 3 c, .slice none 0 0, .slice none 0 0, .slice none 0 0, .slice none 0 0] 46
  have G0 := below_box w (.cells #[.int .i64 site, .bool true, .slice p 3 c, .slice none 0 0, .slice none 0 0, .slice none 0 0, .slice none 0 0] 46)
  go_enter Try.func31, Try.ntmps31
  obtain ⟨p10, p11, p12, p13, p14, p15, p16, p1f, p1l⟩ := BV.seven
  go_wp2_with fail
  refine (ServerOk_start site p c _ (hr.below G0) hin).mono ?_
  rintro e w1 ⟨rfl, hb1⟩
  have BV := BV.below hb1 BV.lt
  have G0 := below_after G0 hb1
  obtain ⟨p20, p21, p22, p23, p24, p25, p26, p2f, p2l⟩ := BV.seven
  go_wp2_with fail
  refine (owns_start site key p c _ (hr.below G0) hik).mono ?_
  rintro e w2 ⟨rfl, hb2⟩
  have BV := BV.below hb2 BV.lt
  have G0 := below_after G0 hb2
  go_wp2
  go_ret
  exact ⟨rfl, G0⟩

theorem liNoDeps (w : World) : Calls Try.prog 17 #[.slice none 0 0, .slice none 0 0] w fun e w' => e = .returned (.bool true) ∧ Below w.heap.size w w' := liDeps_same [] none none 0 0 w (reads_none w) (reads_none w)
theorem liNoVers (w : World) : Calls Try.prog 75 #[.slice none 0 0, .slice none 0 0] w fun e w' => e = .returned (.bool true) ∧ Below w.heap.size w w' := by
  go_enter Try.func75, Try.ntmps75
  go_wp2
  go_loop [5] (fun i => i = .int .i64 0) (fun _ => 0)
  case atStart => exact rfl
  case round =>
    obtain rfl := hrel
    go_wp2
    go_ret
    exact ⟨rfl, Below.refl _ _⟩
set_option maxRecDepth 100000 in
set_option maxHeartbeats 4000000 in
theorem liServer_same (site : Int) (up : Bool) (l : List (Int × Int)) (a a' : Option Addr) (c c' : Nat) (w : World) (hr : Reads w a l.length c (stsC l)) (hs : Reads w a' l.length c' (stsC l)) :
    Calls Try.prog 28 #[.agg #[.int .i64 site, .bool up, .slice a l.length c, .slice none 0 0, .slice none 0 0, .slice none 0 0, .slice none 0 0], .agg #[.int .i64 site, .bool up, .slice a' l.length c', .slice none 0 0, .slice none 0 0, .slice none 0 0, .slice none 0 0]] w fun e w' => e = .returned (.bool true) ∧ Below w.heap.size w w' := by
  have hn := hr.len
  have G := below_box2 w (.cells #[.int .i64 site, .bool up, .slice a l.length c, .slice none 0 0, .slice none 0 0, .slice none 0 0, .slice none 0 0] 46) (.cells #[.int .i64 site, .bool up, .slice a' l.length c', .slice none 0 0, .slice none 0 0, .slice none 0 0, .slice none 0 0] 46)
  have C1 := (Blk.new w #[.int .i64 site, .bool up, .slice a l.length c, .slice none 0 0, .slice none 0 0, .slice none 0 0, .slice none 0 0] 46).alloc (.cells #[.int .i64 site, .bool up, .slice a' l.length c', .slice none 0 0, .slice none 0 0, .slice none 0 0, .slice none 0 0] 46)
  have C2 := Blk.new (w.alloc (.cells #[.int .i64 site, .bool up, .slice a l.length c, .slice none 0 0, .slice none 0 0, .slice none 0 0, .slice none 0 0] 46)) #[.int .i64 site, .bool up, .slice a' l.length c', .slice none 0 0, .slice none 0 0, .slice none 0 0, .slice none 0 0] 46
  simp only [World.size_alloc] at C2
  go_enter Try.func28, Try.ntmps28
  cases up <;> (
    obtain ⟨x0, x1, x2, x3, x4, x5, x6, xf, xl⟩ := C1.seven
    obtain ⟨y0, y1, y2, y3, y4, y5, y6, yf, yl⟩ := C2.seven
    go_wp2_with fail
    refine (liNoVers _).mono ?_
    rintro e w1 ⟨rfl, hb1⟩
    have C1 := C1.below hb1 C1.lt
    have C2 := C2.below hb1 C2.lt
    have G := below_after G hb1
    obtain ⟨x0, x1, x2, x3, x4, x5, x6, xf, xl⟩ := C1.seven
    obtain ⟨y0, y1, y2, y3, y4, y5, y6, yf, yl⟩ := C2.seven
    go_wp2_with fail
    refine (liNoVers _).mono ?_
    rintro e w2 ⟨rfl, hb2⟩
    have C1 := C1.below hb2 C1.lt
    have C2 := C2.below hb2 C2.lt
    have G := below_after G hb2
    obtain ⟨x0, x1, x2, x3, x4, x5, x6, xf, xl⟩ := C1.seven
    obtain ⟨y0, y1, y2, y3, y4, y5, y6, yf, yl⟩ := C2.seven
    go_wp2_with fail
    refine (liNoDeps _).mono ?_
    rintro e w3 ⟨rfl, hb3⟩
    have C1 := C1.below hb3 C1.lt
    have C2 := C2.below hb3 C2.lt
    have G := below_after G hb3
    obtain ⟨x0, x1, x2, x3, x4, x5, x6, xf, xl⟩ := C1.seven
    obtain ⟨y0, y1, y2, y3, y4, y5, y6, yf, yl⟩ := C2.seven
    go_wp2_with fail
    refine (liNoDeps _).mono ?_
    rintro e w4 ⟨rfl, hb4⟩
    have C1 := C1.below hb4 C1.lt
    have C2 := C2.below hb4 C2.lt
    have G := below_after G hb4
    obtain ⟨x0, x1, x2, x3, x4, x5, x6, xf, xl⟩ := C1.seven
    obtain ⟨y0, y1, y2, y3, y4, y5, y6, yf, yl⟩ := C2.seven
    go_wp2
    go_loopw [5] (fun i wr => ∃ k : Nat, k ≤ l.length ∧ i = .int .i64 k ∧ Below w4.heap.size w4 wr) (fun i _ => l.length - (intOf i).toNat)
    case atStart => exact ⟨0, Nat.zero_le _, rfl, Below.refl _ _⟩
    case round =>
      obtain ⟨k, hk, rfl, hb⟩ := hrel
      have C1 := C1.below hb C1.lt
      have C2 := C2.below hb C2.lt
      have G := below_after G hb
      obtain ⟨r0, r1, r2, r3, r4, r5, r6, rf, rl⟩ := C1.seven
      obtain ⟨s0, s1, s2, s3, s4, s5, s6, sf, sl⟩ := C2.seven
      by_cases hlt : k < l.length
      · have hr' := hr.below G
        have hs' := hs.below G
        obtain ⟨_, _, h3⟩ := hr'
        obtain ⟨_, _, h4⟩ := hs'
        obtain ⟨b, off, rfl, hbl, hcell⟩ := h3 (stsC_ne (by omega))
        obtain ⟨b', off', rfl, hbl', hcell'⟩ := h4 (stsC_ne (by omega))
        obtain ⟨g0, g1⟩ := stsC_get l k hlt
        have c0 := hcell _ _ g0
        have c1 := hcell _ _ g1
        have d0 := hcell' _ _ g0
        have d1 := hcell' _ _ g1
        rw [← Nat.add_assoc] at c1 d1
        have hi0 : (0 : Int) ≤ (k : Int) := by omega
        have hi1 : (k : Int) < (l.length : Int) := by omega
        clear hcell h3 hcell' h4 g0 g1
        go_wp2
        refine region_over (by kernel_rfl) (by kernel_rfl) ?_
        repeat (go_big_quiet_step (fail))
        refine wpQuiet_nil ?_
        intro w9 hb9
        have hbw := below_after hb hb9
        go_wp2
        go_roundw
        case rel => exact ⟨k + 1, by omega, by go_num, hbw⟩
        case measure => simp [intOf]; omega
      · obtain rfl : k = l.length := by omega
        go_wp2
        go_ret
        exact ⟨rfl, G⟩)

theorem DrawServerStart_any (a : Option Addr) (len cap : Nat) (w : World) (hb : BytesIn w a len cap) :
    Calls Try.prog 27 #[.slice a len cap] w fun e w' => ∃ x : Int, e = .returned (.int .i64 x) ∧ Below w.heap.size w w' := by
  go_enter Try.func27, Try.ntmps27
  go_wp2_with fail
  refine (open_any a len cap w hb).mono ?_
  rintro e w1 ⟨rfl, hr1, hb1⟩
  go_wp2_with fail
  refine (pick_any 7 _ _ _ _ hr1 (by omega) (by omega) (by omega)).mono ?_
  rintro e w2 ⟨x, rfl, h2a, h2b, hr2, hg2⟩
  go_wp2
  go_ret
  exact ⟨_, rfl, below_grown hb1 hg2 (Nat.le_refl _)⟩

end Go.Proofs.Ytiigdbmfpibbdaa
