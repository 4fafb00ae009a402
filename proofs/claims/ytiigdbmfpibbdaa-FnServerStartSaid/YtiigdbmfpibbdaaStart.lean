/- How a server begins: the program's function and the reference's. -/
import Derived.Test.YtiigdbmfpibbdaaSlots
import Derived.Test.YtiigdbmfpibbdaaVerP
namespace Go.Proofs.Ytiigdbmfpibbdaa
open Go.RowKit Go.Deep
set_option linter.unusedVariables false

/-- The first k slots at the start of a site. -/
def startF (site : Int) (k : Nat) : List (Int × Int) := (List.range k).map fun (i : Nat) => if (i : Int) % 2 = site % 2 then (1, 1) else (0, 0)
theorem startF_len (site : Int) (k : Nat) : (startF site k).length = k := by simp [startF]
theorem startF_yes {site : Int} {k : Nat} (h : (k : Int) % 2 = site % 2) : stsC (startF site (k + 1)) = stsC (startF site k) ++ [.int .i64 1, .int .i64 1] := by
  simp [startF, List.range_succ, stsC, stC, h]
theorem startF_no {site : Int} {k : Nat} (h : ¬ (k : Int) % 2 = site % 2) : stsC (startF site (k + 1)) = stsC (startF site k) ++ [.int .i64 0, .int .i64 0] := by
  simp [startF, List.range_succ, stsC, stC, h]
/-- A server at its start, its slots in memory of the callee's own. -/
def GivesStart (site : Int) (w : World) (e : Ending) (w' : World) : Prop := ∃ (p : Option Addr) (c : Nat), e = .returned (.agg #[.int .i64 site, .bool true, .slice p 3 c, .slice none 0 0, .slice none 0 0, .slice none 0 0, .slice none 0 0]) ∧ w'.ownsRow w.heap.size 101 2 (.slice p 3 c) 3 (stsC (startF site 3)) ∧ Below w.heap.size w w'
def GivesNo (w : World) (e : Ending) (w' : World) : Prop := e = .returned (.agg #[.int .i64 0, .bool false, .slice none 0 0, .slice none 0 0, .slice none 0 0, .slice none 0 0, .slice none 0 0]) ∧ Below w.heap.size w w'
theorem cell_two_b (w : World) (x y : Value) (T : TypeId) {b : Nat} (hb : b = w.heap.size) : ∀ j u, [x, y][j]? = some u → (w.alloc (.cells #[x, y] T)).cell? ((⟨b, 0, none⟩ : Addr).add j) = some u := by
  subst hb; exact cell_two_at w x y T
theorem one_two (a b : Int) : ∀ u ∈ [Value.int .i64 a, .int .i64 b], u.oneCell' = true := by
  intro u hu
  simp only [List.mem_cons, List.not_mem_nil, or_false] at hu
  rcases hu with rfl | rfl <;> rfl

set_option maxHeartbeats 1000000 in
theorem ServerStart_impl_no (site : Int) (w : World) (h : inB site 0 3 = false) : Calls Try.prog 29 #[.int .i64 site] w (GivesNo w) := by
  have BR := Blk.new w #[.int .i64 0, .bool false, .slice none 0 0, .slice none 0 0, .slice none 0 0, .slice none 0 0, .slice none 0 0] 46
  have G0 := below_box w (.cells #[.int .i64 0, .bool false, .slice none 0 0, .slice none 0 0, .slice none 0 0, .slice none 0 0, .slice none 0 0] 46)
  obtain ⟨x0, x1, x2, x3, x4, x5, x6, xf, xl⟩ := BR.seven
  go_enter Try.func29, Try.ntmps29
  go_wp2_with fail
  refine (isSite_impl _ _).mono ?_
  rintro e w' ⟨rfl, rfl⟩
  go_wp2
  exact bodyPost_ret (v := .agg #[.int .i64 0, .bool false, .slice none 0 0, .slice none 0 0, .slice none 0 0, .slice none 0 0, .slice none 0 0]) (by simp [results, Try.results29, go_sem, *]) rfl ⟨rfl, G0⟩
set_option maxRecDepth 100000 in
set_option maxHeartbeats 2000000 in
theorem ServerStart_impl (site : Int) (w : World) (h : inB site 0 3 = true) : Calls Try.prog 29 #[.int .i64 site] w (GivesStart site w) := by
  obtain ⟨i0, hi, hz0, hz1, hz2⟩ := info_parts infoSlot
  have hsb := inB_iff.1 h
  obtain ⟨hs0, hs3⟩ := hsb
  have BR := (Blk.new w #[.int .i64 0, .bool false, .slice none 0 0, .slice none 0 0, .slice none 0 0, .slice none 0 0, .slice none 0 0] 46).alloc (.cells #[.int .i64 site, .bool true, .slice none 0 0, .slice none 0 0, .slice none 0 0, .slice none 0 0, .slice none 0 0] 46)
  have BS := Blk.new (w.alloc (.cells #[.int .i64 0, .bool false, .slice none 0 0, .slice none 0 0, .slice none 0 0, .slice none 0 0, .slice none 0 0] 46)) #[.int .i64 site, .bool true, .slice none 0 0, .slice none 0 0, .slice none 0 0, .slice none 0 0, .slice none 0 0] 46
  simp only [World.size_alloc] at BS
  have G0 := below_box2 w (.cells #[.int .i64 0, .bool false, .slice none 0 0, .slice none 0 0, .slice none 0 0, .slice none 0 0, .slice none 0 0] 46) (.cells #[.int .i64 site, .bool true, .slice none 0 0, .slice none 0 0, .slice none 0 0, .slice none 0 0, .slice none 0 0] 46)
  go_enter Try.func29, Try.ntmps29
  go_wp2_with fail
  refine (isSite_impl _ _).mono ?_
  rintro e w' ⟨rfl, rfl⟩
  go_wp2
  go_loopw [11] (fun i wr => ∃ (k : Nat) (p : Option Addr) (c : Nat), k ≤ 3 ∧ i = .int .i64 k ∧ Blk wr w.heap.size #[.int .i64 0, .bool false, .slice none 0 0, .slice none 0 0, .slice none 0 0, .slice none 0 0, .slice none 0 0] 46 ∧ Blk wr (w.heap.size + 1) #[.int .i64 site, .bool true, .slice p k c, .slice none 0 0, .slice none 0 0, .slice none 0 0, .slice none 0 0] 46 ∧ wr.ownsRow (w.heap.size + 1 + 1) 101 2 (.slice p k c) k (stsC (startF site k)) ∧ Below w.heap.size w wr) (fun i _ => 3 - (intOf i).toNat)
  case atStart => exact ⟨0, none, 0, by omega, rfl, BR, BS, World.ownsRow_nil _ _ _ _, G0⟩
  case round =>
    obtain ⟨k, p, c, hk, rfl, BR, BS, own, hBw⟩ := hrel
    have hz := BS.lt
    obtain ⟨x0, x1, x2, x3, x4, x5, x6, xf, xl⟩ := BS.seven
    by_cases hlt : k < 3
    · by_cases hm : (k : Int) % 2 = site % 2
      · have HM := Lib.hid hm
        have hm' : ((k : Int) % 2 == site % 2) = true := by simpa using hm
        clear hm
        go_wp2_with (at_builtin; refine wpList_append_own _ rfl (.tmp 20) (.tmp 22) 43 rfl (w.heap.size + 1 + 1) 101 i0 _ 2 16 Try.underlying43 hi hz0 hz1 hz2 rfl (by decide) _ _ _ rfl (own.alloc _) _ 1 1 [.int .i64 1, .int .i64 1] rfl rfl (by exact cell_two_b _ _ _ _ (by simp)) (by exact one_two _ _) (by unfold maxLen; omega) (by omega) (by simp; omega) ?_)
        intro v5 w5 own5 hg5 _
        have hb5 : Below (w.heap.size + 1 + 1) wr w5 := below_app (Below.alloc (Below.refl _ _) (by omega) _) (own.alloc _) hg5 (Nat.le_refl _) (by simp; omega)
        have BR := BR.below hb5 (by omega)
        have BS := BS.below hb5 (by omega)
        have G5 := hBw.trans (hb5.mono (by omega))
        have own5 : w5.ownsRow (w.heap.size + 1 + 1) 101 2 v5 (k + 1) (stsC (startF site (k + 1))) := by rw [startF_yes HM.out]; exact own5
        obtain ⟨p5, c5, rfl, rd5⟩ := Reads.of_owns own5
        obtain ⟨y0, y1, y2, y3, y4, y5, y6, yf, yl⟩ := BS.seven
        have BR := BR.setb (b' := w.heap.size + 1) (o := 2) (by omega) (.slice p5 (k + 1) c5)
        have BS := BS.put2 (.slice p5 (k + 1) c5)
        have own5 := own_set own5 (own_ne' own5 (b := w.heap.size + 1) (by omega)) (o := 2) (.slice p5 (k + 1) c5)
        have G5 := below_setb G5 (b := w.heap.size + 1) (o := 2) (Nat.le_succ _) (.slice p5 (k + 1) c5)
        go_wp2
        go_roundw
        case rel => exact ⟨k + 1, p5, c5, by omega, by go_num, BR, BS, own5, G5⟩
        case measure => simp [intOf]; omega
      · have HM := Lib.hid hm
        have hm' : ((k : Int) % 2 == site % 2) = false := by simpa using hm
        clear hm
        go_wp2_with (at_builtin; refine wpList_append_own _ rfl (.tmp 26) (.tmp 28) 43 rfl (w.heap.size + 1 + 1) 101 i0 _ 2 16 Try.underlying43 hi hz0 hz1 hz2 rfl (by decide) _ _ _ rfl (own.alloc _) _ 1 1 [.int .i64 0, .int .i64 0] rfl rfl (by exact cell_two_b _ _ _ _ (by simp)) (by exact one_two _ _) (by unfold maxLen; omega) (by omega) (by simp; omega) ?_)
        intro v5 w5 own5 hg5 _
        have hb5 : Below (w.heap.size + 1 + 1) wr w5 := below_app (Below.alloc (Below.refl _ _) (by omega) _) (own.alloc _) hg5 (Nat.le_refl _) (by simp; omega)
        have BR := BR.below hb5 (by omega)
        have BS := BS.below hb5 (by omega)
        have G5 := hBw.trans (hb5.mono (by omega))
        have own5 : w5.ownsRow (w.heap.size + 1 + 1) 101 2 v5 (k + 1) (stsC (startF site (k + 1))) := by rw [startF_no HM.out]; exact own5
        obtain ⟨p5, c5, rfl, rd5⟩ := Reads.of_owns own5
        obtain ⟨y0, y1, y2, y3, y4, y5, y6, yf, yl⟩ := BS.seven
        have BR := BR.setb (b' := w.heap.size + 1) (o := 2) (by omega) (.slice p5 (k + 1) c5)
        have BS := BS.put2 (.slice p5 (k + 1) c5)
        have own5 := own_set own5 (own_ne' own5 (b := w.heap.size + 1) (by omega)) (o := 2) (.slice p5 (k + 1) c5)
        have G5 := below_setb G5 (b := w.heap.size + 1) (o := 2) (Nat.le_succ _) (.slice p5 (k + 1) c5)
        go_wp2
        go_roundw
        case rel => exact ⟨k + 1, p5, c5, by omega, by go_num, BR, BS, own5, G5⟩
        case measure => simp [intOf]; omega
    · obtain rfl : k = 3 := by omega
      obtain ⟨r0, r1, r2, r3, r4, r5, r6, rf, rl⟩ := BR.seven
      have own := own_base own (show w.heap.size + 1 + 1 ≤ w.heap.size + 1 + 1 from Nat.le_refl _)
      have own := own_set own (own_ne' own (b := w.heap.size) (by omega)) (o := 0) (.int .i64 site)
      have own := own_set own (own_ne' own (b := w.heap.size) (by omega)) (o := 1) (.bool true)
      have own := own_set own (own_ne' own (b := w.heap.size) (by omega)) (o := 2) (.slice p 3 c)
      have own := own_set own (own_ne' own (b := w.heap.size) (by omega)) (o := 3) (.slice none 0 0)
      have own := own_set own (own_ne' own (b := w.heap.size) (by omega)) (o := 4) (.slice none 0 0)
      have own := own_set own (own_ne' own (b := w.heap.size) (by omega)) (o := 5) (.slice none 0 0)
      have own := own_set own (own_ne' own (b := w.heap.size) (by omega)) (o := 6) (.slice none 0 0)
      have G9 := (below_setb (below_setb (below_setb (below_setb (below_setb (below_setb (below_setb hBw (b := w.heap.size) (o := 0) (Nat.le_refl _) (.int .i64 site)) (b := w.heap.size) (o := 1) (Nat.le_refl _) (.bool true)) (b := w.heap.size) (o := 2) (Nat.le_refl _) (.slice p 3 c)) (b := w.heap.size) (o := 3) (Nat.le_refl _) (.slice none 0 0)) (b := w.heap.size) (o := 4) (Nat.le_refl _) (.slice none 0 0)) (b := w.heap.size) (o := 5) (Nat.le_refl _) (.slice none 0 0)) (b := w.heap.size) (o := 6) (Nat.le_refl _) (.slice none 0 0))
      go_wp2
      exact bodyPost_ret (v := .agg #[.int .i64 site, .bool true, .slice p 3 c, .slice none 0 0, .slice none 0 0, .slice none 0 0, .slice none 0 0]) (by simp [results, Try.results29, go_sem, *]) rfl ⟨p, c, rfl, own_base own (by omega), G9⟩

set_option maxHeartbeats 1000000 in
theorem ServerStart_spec_no (site : Int) (w : World) (h : inB site 0 3 = false) : Calls Try.prog 30 #[.int .i64 site] w (GivesNo w) := by
  have BR := Blk.new w #[.int .i64 0, .bool false, .slice none 0 0, .slice none 0 0, .slice none 0 0, .slice none 0 0, .slice none 0 0] 46
  have G0 := below_box w (.cells #[.int .i64 0, .bool false, .slice none 0 0, .slice none 0 0, .slice none 0 0, .slice none 0 0, .slice none 0 0] 46)
  obtain ⟨x0, x1, x2, x3, x4, x5, x6, xf, xl⟩ := BR.seven
  go_enter Try.func30, Try.ntmps30
  go_wp2_with fail
  refine (isSite_spec _ _).mono ?_
  rintro e w' ⟨rfl, rfl⟩
  go_wp2
  exact bodyPost_ret (v := .agg #[.int .i64 0, .bool false, .slice none 0 0, .slice none 0 0, .slice none 0 0, .slice none 0 0, .slice none 0 0]) (by simp [results, Try.results30, go_sem, *]) rfl ⟨rfl, G0⟩
set_option maxRecDepth 100000 in
set_option maxHeartbeats 2000000 in
theorem ServerStart_spec (site : Int) (w : World) (h : inB site 0 3 = true) : Calls Try.prog 30 #[.int .i64 site] w (GivesStart site w) := by
  obtain ⟨i0, hi, hz0, hz1, hz2⟩ := info_parts infoSlot
  have hsb := inB_iff.1 h
  obtain ⟨hs0, hs3⟩ := hsb
  have BR := (Blk.new w #[.int .i64 0, .bool false, .slice none 0 0, .slice none 0 0, .slice none 0 0, .slice none 0 0, .slice none 0 0] 46).alloc (.cells #[.int .i64 site, .bool true, .slice none 0 0, .slice none 0 0, .slice none 0 0, .slice none 0 0, .slice none 0 0] 46)
  have BS := Blk.new (w.alloc (.cells #[.int .i64 0, .bool false, .slice none 0 0, .slice none 0 0, .slice none 0 0, .slice none 0 0, .slice none 0 0] 46)) #[.int .i64 site, .bool true, .slice none 0 0, .slice none 0 0, .slice none 0 0, .slice none 0 0, .slice none 0 0] 46
  simp only [World.size_alloc] at BS
  have G0 := below_box2 w (.cells #[.int .i64 0, .bool false, .slice none 0 0, .slice none 0 0, .slice none 0 0, .slice none 0 0, .slice none 0 0] 46) (.cells #[.int .i64 site, .bool true, .slice none 0 0, .slice none 0 0, .slice none 0 0, .slice none 0 0, .slice none 0 0] 46)
  go_enter Try.func30, Try.ntmps30
  go_wp2_with fail
  refine (isSite_spec _ _).mono ?_
  rintro e w' ⟨rfl, rfl⟩
  go_wp2
  go_loopw [4, 5] (fun i _ wr => ∃ (k : Nat) (p : Option Addr) (c : Nat), k ≤ 3 ∧ i = .int .i64 k ∧ Blk wr w.heap.size #[.int .i64 0, .bool false, .slice none 0 0, .slice none 0 0, .slice none 0 0, .slice none 0 0, .slice none 0 0] 46 ∧ Blk wr (w.heap.size + 1) #[.int .i64 site, .bool true, .slice p k c, .slice none 0 0, .slice none 0 0, .slice none 0 0, .slice none 0 0] 46 ∧ wr.ownsRow (w.heap.size + 1 + 1) 101 2 (.slice p k c) k (stsC (startF site k)) ∧ Below w.heap.size w wr) (fun i _ _ => 3 - (intOf i).toNat)
  case atStart => exact ⟨0, none, 0, by omega, rfl, BR, BS, World.ownsRow_nil _ _ _ _, G0⟩
  case round =>
    obtain ⟨k, p, c, hk, rfl, BR, BS, own, hBw⟩ := hrel
    have hz := BS.lt
    obtain ⟨x0, x1, x2, x3, x4, x5, x6, xf, xl⟩ := BS.seven
    by_cases hlt : k < 3
    · by_cases hm : (k : Int) % 2 = site % 2
      · have HM := Lib.hid hm
        have hm' : ((k : Int) % 2 == site % 2) = true := by simpa using hm
        clear hm
        go_wp2_with (at_builtin; refine wpList_append_own _ rfl (.tmp 24) (.tmp 26) 43 rfl (w.heap.size + 1 + 1) 101 i0 _ 2 16 Try.underlying43 hi hz0 hz1 hz2 rfl (by decide) _ _ _ rfl ((own.alloc _).alloc _) _ 1 1 [.int .i64 1, .int .i64 1] rfl rfl (by exact cell_two_b _ _ _ _ (by simp)) (by exact one_two _ _) (by unfold maxLen; omega) (by omega) (by simp; omega) ?_)
        intro v5 w5 own5 hg5 _
        have hb5 : Below (w.heap.size + 1 + 1) wr w5 := below_app (Below.alloc (Below.alloc (Below.refl _ _) (by omega) _) (by simp; omega) _) ((own.alloc _).alloc _) hg5 (Nat.le_refl _) (by simp; omega)
        have BR := BR.below hb5 (by omega)
        have BS := BS.below hb5 (by omega)
        have G5 := hBw.trans (hb5.mono (by omega))
        have own5 : w5.ownsRow (w.heap.size + 1 + 1) 101 2 v5 (k + 1) (stsC (startF site (k + 1))) := by rw [startF_yes HM.out]; exact own5
        obtain ⟨p5, c5, rfl, rd5⟩ := Reads.of_owns own5
        obtain ⟨y0, y1, y2, y3, y4, y5, y6, yf, yl⟩ := BS.seven
        have BR := BR.setb (b' := w.heap.size + 1) (o := 2) (by omega) (.slice p5 (k + 1) c5)
        have BS := BS.put2 (.slice p5 (k + 1) c5)
        have own5 := own_set own5 (own_ne' own5 (b := w.heap.size + 1) (by omega)) (o := 2) (.slice p5 (k + 1) c5)
        have G5 := below_setb G5 (b := w.heap.size + 1) (o := 2) (Nat.le_succ _) (.slice p5 (k + 1) c5)
        go_wp2
        go_roundw
        case rel => exact ⟨k + 1, p5, c5, by omega, by go_num, BR, BS, own5, G5⟩
        case measure => simp [intOf]; omega
      · have HM := Lib.hid hm
        have hm' : ((k : Int) % 2 == site % 2) = false := by simpa using hm
        clear hm
        go_wp2_with (at_builtin; refine wpList_append_own _ rfl (.tmp 24) (.tmp 26) 43 rfl (w.heap.size + 1 + 1) 101 i0 _ 2 16 Try.underlying43 hi hz0 hz1 hz2 rfl (by decide) _ _ _ rfl ((own.alloc _).alloc _) _ 1 1 [.int .i64 0, .int .i64 0] rfl rfl (by exact cell_two_b _ _ _ _ (by simp)) (by exact one_two _ _) (by unfold maxLen; omega) (by omega) (by simp; omega) ?_)
        intro v5 w5 own5 hg5 _
        have hb5 : Below (w.heap.size + 1 + 1) wr w5 := below_app (Below.alloc (Below.alloc (Below.refl _ _) (by omega) _) (by simp; omega) _) ((own.alloc _).alloc _) hg5 (Nat.le_refl _) (by simp; omega)
        have BR := BR.below hb5 (by omega)
        have BS := BS.below hb5 (by omega)
        have G5 := hBw.trans (hb5.mono (by omega))
        have own5 : w5.ownsRow (w.heap.size + 1 + 1) 101 2 v5 (k + 1) (stsC (startF site (k + 1))) := by rw [startF_no HM.out]; exact own5
        obtain ⟨p5, c5, rfl, rd5⟩ := Reads.of_owns own5
        obtain ⟨y0, y1, y2, y3, y4, y5, y6, yf, yl⟩ := BS.seven
        have BR := BR.setb (b' := w.heap.size + 1) (o := 2) (by omega) (.slice p5 (k + 1) c5)
        have BS := BS.put2 (.slice p5 (k + 1) c5)
        have own5 := own_set own5 (own_ne' own5 (b := w.heap.size + 1) (by omega)) (o := 2) (.slice p5 (k + 1) c5)
        have G5 := below_setb G5 (b := w.heap.size + 1) (o := 2) (Nat.le_succ _) (.slice p5 (k + 1) c5)
        go_wp2
        go_roundw
        case rel => exact ⟨k + 1, p5, c5, by omega, by go_num, BR, BS, own5, G5⟩
        case measure => simp [intOf]; omega
    · obtain rfl : k = 3 := by omega
      obtain ⟨r0, r1, r2, r3, r4, r5, r6, rf, rl⟩ := BR.seven
      have own := own_base own (show w.heap.size + 1 + 1 ≤ w.heap.size + 1 + 1 from Nat.le_refl _)
      have own := own_set own (own_ne' own (b := w.heap.size) (by omega)) (o := 0) (.int .i64 site)
      have own := own_set own (own_ne' own (b := w.heap.size) (by omega)) (o := 1) (.bool true)
      have own := own_set own (own_ne' own (b := w.heap.size) (by omega)) (o := 2) (.slice p 3 c)
      have own := own_set own (own_ne' own (b := w.heap.size) (by omega)) (o := 3) (.slice none 0 0)
      have own := own_set own (own_ne' own (b := w.heap.size) (by omega)) (o := 4) (.slice none 0 0)
      have own := own_set own (own_ne' own (b := w.heap.size) (by omega)) (o := 5) (.slice none 0 0)
      have own := own_set own (own_ne' own (b := w.heap.size) (by omega)) (o := 6) (.slice none 0 0)
      have G9 := (below_setb (below_setb (below_setb (below_setb (below_setb (below_setb (below_setb hBw (b := w.heap.size) (o := 0) (Nat.le_refl _) (.int .i64 site)) (b := w.heap.size) (o := 1) (Nat.le_refl _) (.bool true)) (b := w.heap.size) (o := 2) (Nat.le_refl _) (.slice p 3 c)) (b := w.heap.size) (o := 3) (Nat.le_refl _) (.slice none 0 0)) (b := w.heap.size) (o := 4) (Nat.le_refl _) (.slice none 0 0)) (b := w.heap.size) (o := 5) (Nat.le_refl _) (.slice none 0 0)) (b := w.heap.size) (o := 6) (Nat.le_refl _) (.slice none 0 0))
      go_wp2
      exact bodyPost_ret (v := .agg #[.int .i64 site, .bool true, .slice p 3 c, .slice none 0 0, .slice none 0 0, .slice none 0 0, .slice none 0 0]) (by simp [results, Try.results30, go_sem, *]) rfl ⟨p, c, rfl, own_base own (by omega), G9⟩

end Go.Proofs.Ytiigdbmfpibbdaa
