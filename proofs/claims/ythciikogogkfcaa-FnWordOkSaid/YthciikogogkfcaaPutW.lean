/- A put, a join and what is told of a key: the program's functions and the reference's give what the plain functions give. -/
import Derived.Test.YthciikogogkfcaaDepsW
namespace Go.Proofs.Ythciikogogkfcaa
open Go.RowKit Go.Deep
set_option linter.unusedVariables false

set_option maxRecDepth 100000 in
set_option maxHeartbeats 2000000 in
theorem put_impl (l : List Dp) (d : Dp) (a : Option Addr) (cap : Nat) (w : World) (hr : Reads w a l.length cap (dpsC l)) (hl : l.length ≤ 1048577) (hok : depsOkB l = true) :
    Calls Try.prog 133 #[.slice a l.length cap, .agg #[.int .i64 d.1, .int .i64 d.2.1, .int .i64 d.2.2]] w (OwnDeps (putF l d) w) := by
  obtain ⟨i0, hi, hz0, hz1, hz2⟩ := info_parts infoDep
  have B0 := Blk.new w #[.int .i64 d.1, .int .i64 d.2.1, .int .i64 d.2.2] 32
  have G0 := below_box w (.cells #[.int .i64 d.1, .int .i64 d.2.1, .int .i64 d.2.2] 32)
  go_enter Try.func133, Try.ntmps133
  go_wp2
  go_loopw [5, 6, 11] (fun v t i wr => ∃ (k : Nat) (out : List Dp) (done : Bool), k ≤ l.length ∧ i = .int .i64 k ∧ t = .bool done ∧ PutSt l d k out done ∧ Blk wr w.heap.size #[.int .i64 d.1, .int .i64 d.2.1, .int .i64 d.2.2] 32 ∧ wr.ownsRow (w.heap.size + 1) 32 3 v out.length (dpsC out) ∧ Below w.heap.size w wr) (fun _ _ i _ => l.length - (intOf i).toNat)
  case atStart => exact ⟨0, [], false, Nat.zero_le _, rfl, rfl, .inl ⟨rfl, rfl, by simp⟩, B0, World.ownsRow_nil _ _ _ _, G0⟩
  case round =>
    obtain ⟨k, out, done, hk, rfl, rfl, hst, BD, own, hBw⟩ := hrel
    have hlen := hst.len hk
    have hz := BD.lt
    by_cases hlt : k < l.length
    · have hr' := hr
      obtain ⟨_, _, h3⟩ := hr'
      obtain ⟨b, off, rfl, hob, hcell⟩ := h3 (dpsC_ne (by omega))
      obtain ⟨g0, g1, g2⟩ := dpsC_get l k hlt
      obtain ⟨c0, c1, c2, hbl⟩ := cells3 hBw hob (hcell _ _ g0) (hcell _ _ g1) (hcell _ _ g2)
      rw [← Nat.add_assoc] at c1 c2
      have B1 := Blk.new wr #[.int .i64 l[k].1, .int .i64 l[k].2.1, .int .i64 l[k].2.2] 32
      have G1 := below_alloc hBw (.cells #[.int .i64 l[k].1, .int .i64 l[k].2.1, .int .i64 l[k].2.2] 32)
      have BD1 := BD.alloc (.cells #[.int .i64 l[k].1, .int .i64 l[k].2.1, .int .i64 l[k].2.2] 32)
      clear hcell g0 g1 g2 h3
      have hne : wr.heap.size ≠ w.heap.size := by omega
      obtain ⟨q0, q1, q2, qf, ql⟩ := BD1.three
      cases done with
      | true =>
        have hp := hst.past hok hlt
        have hn : (l[k].1 == d.1) = false := by simp; omega
        have hst2 := hst.on hlt
        have HS := Lib.hid hst2
        clear hst hst2
        go_wp2_with (at_builtin; refine wpList_append_own _ rfl (.tmp 41) (.tmp 43) 25 rfl (w.heap.size + 1) 32 i0 _ 3 24 Try.underlying25 hi hz0 hz1 hz2 rfl (by decide) _ _ _ rfl ((own.alloc (.cells #[.int .i64 l[k].1, .int .i64 l[k].2.1, .int .i64 l[k].2.2] 32)).alloc _) _ 1 1 [.int .i64 l[k].1, .int .i64 l[k].2.1, .int .i64 l[k].2.2] rfl rfl (by exact cell_three_at _ _ _ _ _ (by simp)) (by exact one_three _ _ _) (by unfold maxLen; omega) (by omega) (by simp; omega) ?_)
        intro v3 w3 own3 hg3 _
        have hb3 : Below (w.heap.size + 1) wr w3 := below_app (Below.alloc (Below.alloc (Below.refl (w.heap.size + 1) wr) (by first | omega | (simp; omega)) (.cells #[.int .i64 l[k].1, .int .i64 l[k].2.1, .int .i64 l[k].2.2] 32)) (by first | omega | (simp; omega)) (.cells #[.int .i64 l[k].1, .int .i64 l[k].2.1, .int .i64 l[k].2.2] 32)) ((own.alloc (.cells #[.int .i64 l[k].1, .int .i64 l[k].2.1, .int .i64 l[k].2.2] 32)).alloc _) hg3 (Nat.le_refl _) (by simp; omega)
        clear hg3
        have BD3 := BD.below hb3 (by omega)
        have G3 := hBw.trans (hb3.mono (by omega))
        have own4 : w3.ownsRow (w.heap.size + 1) 32 3 v3 (out ++ [l[k]]).length (dpsC (out ++ [l[k]])) := by rw [dpsC_snoc]; simpa using own3
        clear own3
        go_wp2
        go_roundw
        case rel => exact ⟨k + 1, out ++ [l[k]], true, by omega, by go_num, rfl, HS.out, BD3, own4, G3⟩
        case measure => simp [intOf]; omega
      | false =>
        by_cases heq : l[k].1 = d.1
        · have hn : (l[k].1 == d.1) = true := by simpa using heq
          have hst2 := hst.same hlt heq
          have HS := Lib.hid hst2
          clear hst hst2 heq
          go_wp2_with fail
          refine (stampLess_impl _ _ _ _ _).mono ?_
          rintro e w2 ⟨rfl, hb2⟩
          have hzz := hb2.size
          simp only [World.size_alloc] at hzz
          have own2 := own_below (own.alloc (.cells #[.int .i64 l[k].1, .int .i64 l[k].2.1, .int .i64 l[k].2.2] 32)) hb2
          have E2 := B1.below hb2 B1.lt
          have D2 := BD1.below hb2 BD1.lt
          have hbl2 := (Below.alloc (Below.refl (w.heap.size + 1) wr) (by omega) (.cells #[.int .i64 l[k].1, .int .i64 l[k].2.1, .int .i64 l[k].2.2] 32)).trans (hb2.mono (by simp; omega))
          obtain ⟨s0, s1, s2, sf, sl⟩ := E2.three
          obtain ⟨t0, t1, t2, tf, tl⟩ := D2.three
          cases hless : stampLessB l[k].2.1 l[k].2.2 d.2.1 d.2.2 with
          | true =>
            have own3 := own_set (own_set (own_set own2 (own_ne own (Nat.le_refl _)) (o := 0) (.int .i64 d.1)) (own_ne own (Nat.le_refl _)) (o := 1) (.int .i64 d.2.1)) (own_ne own (Nat.le_refl _)) (o := 2) (.int .i64 d.2.2)
            have hbl3 := below_setN (below_setN (below_setN hbl2 (b := wr.heap.size) (o := 0) (by omega) (.int .i64 d.1)) (b := wr.heap.size) (o := 1) (by omega) (.int .i64 d.2.1)) (b := wr.heap.size) (o := 2) (by omega) (.int .i64 d.2.2)
            go_wp2_with (at_builtin; refine wpList_append_own _ rfl (.tmp 41) (.tmp 43) 25 rfl (w.heap.size + 1) 32 i0 _ 3 24 Try.underlying25 hi hz0 hz1 hz2 rfl (by decide) _ _ _ rfl (own3.alloc _) _ 1 1 [.int .i64 d.1, .int .i64 d.2.1, .int .i64 d.2.2] rfl rfl (by exact cell_three_at _ _ _ _ _ (by simp)) (by exact one_three _ _ _) (by unfold maxLen; omega) (by omega) (by simp; omega) ?_)
            intro v4 w4 own4 hg4 _
            have hb4 : Below (w.heap.size + 1) wr w4 := below_app (Below.alloc (hbl3) (by first | omega | (simp; omega)) (.cells #[.int .i64 d.1, .int .i64 d.2.1, .int .i64 d.2.2] 32)) (own3.alloc _) hg4 (Nat.le_refl _) (by simp; omega)
            clear hg4
            have BD3 := BD.below hb4 (by omega)
            have G3 := hBw.trans (hb4.mono (by omega))
            have own5 : w4.ownsRow (w.heap.size + 1) 32 3 v4 (out ++ [if lessD l[k] d then d else l[k]]).length (dpsC (out ++ [if lessD l[k] d then d else l[k]])) := by rw [dpsC_snoc, lessD, hless]; simpa using own4
            clear own3 own4
            go_wp2
            go_roundw
            case rel => exact ⟨k + 1, out ++ [if lessD l[k] d then d else l[k]], true, by omega, by go_num, rfl, HS.out, BD3, own5, G3⟩
            case measure => simp [intOf]; omega
          | false =>
            go_wp2_with (at_builtin; refine wpList_append_own _ rfl (.tmp 41) (.tmp 43) 25 rfl (w.heap.size + 1) 32 i0 _ 3 24 Try.underlying25 hi hz0 hz1 hz2 rfl (by decide) _ _ _ rfl (own2.alloc _) _ 1 1 [.int .i64 l[k].1, .int .i64 l[k].2.1, .int .i64 l[k].2.2] rfl rfl (by exact cell_three_at _ _ _ _ _ (by simp)) (by exact one_three _ _ _) (by unfold maxLen; omega) (by omega) (by simp; omega) ?_)
            intro v4 w4 own4 hg4 _
            have hb4 : Below (w.heap.size + 1) wr w4 := below_app (Below.alloc (hbl2) (by first | omega | (simp; omega)) (.cells #[.int .i64 l[k].1, .int .i64 l[k].2.1, .int .i64 l[k].2.2] 32)) (own2.alloc _) hg4 (Nat.le_refl _) (by simp; omega)
            clear hg4
            have BD3 := BD.below hb4 (by omega)
            have G3 := hBw.trans (hb4.mono (by omega))
            have own5 : w4.ownsRow (w.heap.size + 1) 32 3 v4 (out ++ [if lessD l[k] d then d else l[k]]).length (dpsC (out ++ [if lessD l[k] d then d else l[k]])) := by rw [dpsC_snoc, lessD, hless]; simpa using own4
            clear own4
            go_wp2
            go_roundw
            case rel => exact ⟨k + 1, out ++ [if lessD l[k] d then d else l[k]], true, by omega, by go_num, rfl, HS.out, BD3, own5, G3⟩
            case measure => simp [intOf]; omega
        · have hn : (l[k].1 == d.1) = false := by simpa using heq
          by_cases hgt : d.1 < l[k].1
          · have hst2 := hst.ahead hlt hgt
            have HS := Lib.hid hst2
            clear hst hst2 heq
            go_wp2_with (at_builtin; refine wpList_append_own _ rfl (.tmp 37) (.tmp 39) 25 rfl (w.heap.size + 1) 32 i0 _ 3 24 Try.underlying25 hi hz0 hz1 hz2 rfl (by decide) _ _ _ rfl ((own.alloc (.cells #[.int .i64 l[k].1, .int .i64 l[k].2.1, .int .i64 l[k].2.2] 32)).alloc _) _ 1 1 [.int .i64 d.1, .int .i64 d.2.1, .int .i64 d.2.2] rfl rfl (by exact cell_three_at _ _ _ _ _ (by simp)) (by exact one_three _ _ _) (by unfold maxLen; omega) (by omega) (by simp; omega) ?_)
            intro v3 w3 own3 hg3 _
            have B3 := (B1.alloc _).row hg3 (own_ne own (Nat.le_refl _))
            have hb3 : Below (w.heap.size + 1) wr w3 := below_app (Below.alloc (Below.alloc (Below.refl (w.heap.size + 1) wr) (by first | omega | (simp; omega)) (.cells #[.int .i64 l[k].1, .int .i64 l[k].2.1, .int .i64 l[k].2.2] 32)) (by first | omega | (simp; omega)) (.cells #[.int .i64 d.1, .int .i64 d.2.1, .int .i64 d.2.2] 32)) ((own.alloc (.cells #[.int .i64 l[k].1, .int .i64 l[k].2.1, .int .i64 l[k].2.2] 32)).alloc _) hg3 (Nat.le_refl _) (by simp; omega)
            clear hg3
            have hwz := hb3.size
            obtain ⟨s0, s1, s2, sf, sl⟩ := B3.three
            go_wp2_with (at_builtin; refine wpList_append_own _ rfl (.tmp 41) (.tmp 43) 25 rfl (w.heap.size + 1) 32 i0 _ 3 24 Try.underlying25 hi hz0 hz1 hz2 rfl (by decide) _ _ _ rfl (own3.alloc _) _ 1 1 [.int .i64 l[k].1, .int .i64 l[k].2.1, .int .i64 l[k].2.2] rfl rfl (by exact cell_three_at _ _ _ _ _ (by simp)) (by exact one_three _ _ _) (by unfold maxLen; omega) (by omega) (by simp; omega) ?_)
            intro v4 w4 own4 hg4 _
            have hb4 : Below (w.heap.size + 1) w3 w4 := below_app (Below.alloc (Below.refl (w.heap.size + 1) w3) (by first | omega | (simp; omega)) (.cells #[.int .i64 l[k].1, .int .i64 l[k].2.1, .int .i64 l[k].2.2] 32)) (own3.alloc _) hg4 (Nat.le_refl _) (by simp; omega)
            clear hg4
            have hb4 := hb3.trans hb4
            have BD3 := BD.below hb4 (by omega)
            have G3 := hBw.trans (hb4.mono (by omega))
            have own5 : w4.ownsRow (w.heap.size + 1) 32 3 v4 (out ++ [d] ++ [l[k]]).length (dpsC (out ++ [d] ++ [l[k]])) := by rw [dpsC_snoc, dpsC_snoc]; simpa using own4
            clear own3 own4
            go_wp2
            go_roundw
            case rel => exact ⟨k + 1, out ++ [d] ++ [l[k]], true, by omega, by go_num, rfl, HS.out, BD3, own5, G3⟩
            case measure => simp [intOf]; omega
          · have hle : l[k].1 ≤ d.1 := by omega
            have hst2 := hst.behind hlt (by omega)
            have HS := Lib.hid hst2
            clear hst hst2 heq hgt
            go_wp2_with (at_builtin; refine wpList_append_own _ rfl (.tmp 41) (.tmp 43) 25 rfl (w.heap.size + 1) 32 i0 _ 3 24 Try.underlying25 hi hz0 hz1 hz2 rfl (by decide) _ _ _ rfl ((own.alloc (.cells #[.int .i64 l[k].1, .int .i64 l[k].2.1, .int .i64 l[k].2.2] 32)).alloc _) _ 1 1 [.int .i64 l[k].1, .int .i64 l[k].2.1, .int .i64 l[k].2.2] rfl rfl (by exact cell_three_at _ _ _ _ _ (by simp)) (by exact one_three _ _ _) (by unfold maxLen; omega) (by omega) (by simp; omega) ?_)
            intro v3 w3 own3 hg3 _
            have hb3 : Below (w.heap.size + 1) wr w3 := below_app (Below.alloc (Below.alloc (Below.refl (w.heap.size + 1) wr) (by first | omega | (simp; omega)) (.cells #[.int .i64 l[k].1, .int .i64 l[k].2.1, .int .i64 l[k].2.2] 32)) (by first | omega | (simp; omega)) (.cells #[.int .i64 l[k].1, .int .i64 l[k].2.1, .int .i64 l[k].2.2] 32)) ((own.alloc (.cells #[.int .i64 l[k].1, .int .i64 l[k].2.1, .int .i64 l[k].2.2] 32)).alloc _) hg3 (Nat.le_refl _) (by simp; omega)
            clear hg3
            have BD3 := BD.below hb3 (by omega)
            have G3 := hBw.trans (hb3.mono (by omega))
            have own4 : w3.ownsRow (w.heap.size + 1) 32 3 v3 (out ++ [l[k]]).length (dpsC (out ++ [l[k]])) := by rw [dpsC_snoc]; simpa using own3
            clear own3
            go_wp2
            go_roundw
            case rel => exact ⟨k + 1, out ++ [l[k]], false, by omega, by go_num, rfl, HS.out, BD3, own4, G3⟩
            case measure => simp [intOf]; omega
    · obtain rfl : k = l.length := by omega
      have hd := hst.done
      obtain ⟨q0, q1, q2, qf, ql⟩ := BD.three
      cases done with
      | true =>
        have HD := Lib.hid hd
        clear hd hst
        go_wp2
        go_ret
        exact ⟨_, rfl, by rw [HD.out, if_pos trivial]; exact own_base own (by omega), hBw⟩
      | false =>
        have HD := Lib.hid hd
        clear hd hst
        go_wp2_with (at_builtin; refine wpList_append_own _ rfl (.tmp 48) (.tmp 50) 25 rfl (w.heap.size + 1) 32 i0 _ 3 24 Try.underlying25 hi hz0 hz1 hz2 rfl (by decide) _ _ _ rfl (own.alloc _) _ 1 1 [.int .i64 d.1, .int .i64 d.2.1, .int .i64 d.2.2] rfl rfl (by exact cell_three_at _ _ _ _ _ (by simp)) (by exact one_three _ _ _) (by unfold maxLen; omega) (by omega) (by simp; omega) ?_)
        intro v3 w3 own3 hg3 _
        have hb3 : Below (w.heap.size + 1) wr w3 := below_app (Below.alloc (Below.refl (w.heap.size + 1) wr) (by first | omega | (simp; omega)) (.cells #[.int .i64 d.1, .int .i64 d.2.1, .int .i64 d.2.2] 32)) (own.alloc _) hg3 (Nat.le_refl _) (by simp; omega)
        clear hg3
        go_wp2
        go_ret
        exact ⟨_, rfl, by rw [HD.out, if_neg (by simp), dpsC_snoc]; exact own_base (by simpa using own3) (by omega), hBw.trans (hb3.mono (by omega))⟩

set_option maxRecDepth 100000 in
set_option maxHeartbeats 2000000 in
theorem DepsPut_spec_ok (l : List Dp) (d : Dp) (a : Option Addr) (cap : Nat) (w : World) (hr : Reads w a l.length cap (dpsC l)) (hl : l.length ≤ 1048577) (hok : depsOkB l = true) (hd : dpOk d = true) :
    Calls Try.prog 101 #[.slice a l.length cap, .agg #[.int .i64 d.1, .int .i64 d.2.1, .int .i64 d.2.2]] w (OwnDeps (putF l d) w) := by
  obtain ⟨i0, hi, hz0, hz1, hz2⟩ := info_parts infoDep
  have B0 := Blk.new w #[.int .i64 d.1, .int .i64 d.2.1, .int .i64 d.2.2] 32
  have G0 := below_box w (.cells #[.int .i64 d.1, .int .i64 d.2.1, .int .i64 d.2.2] 32)
  go_enter Try.func101, Try.ntmps101
  go_wp2_with fail
  refine (depsOk_spec l a cap _ (hr.alloc _) hl).mono ?_
  rintro e w1 ⟨rfl, hb1⟩
  have B1 := B0.below hb1 B0.lt
  have G1 := below_after G0 hb1
  obtain ⟨p0, p1, p2, pf, pl⟩ := B1.three
  go_wp2_with fail
  refine (depsOk_spec [d] (some ⟨w1.heap.size, 0, none⟩) 1 _ (reads_one w1 d _ rfl) (by simp)).mono ?_
  rintro e w2 ⟨rfl, hb2⟩
  have B2 := (B1.alloc (.cells #[.int .i64 d.1, .int .i64 d.2.1, .int .i64 d.2.2] 32)).below hb2 (B1.alloc (.cells #[.int .i64 d.1, .int .i64 d.2.1, .int .i64 d.2.2] 32)).lt
  have G2 := below_after (below_alloc G1 (.cells #[.int .i64 d.1, .int .i64 d.2.1, .int .i64 d.2.2] 32)) hb2
  have hone : depsOkB [d] = true := by rw [depsOk_one]; exact hd
  go_wp2_with fail
  have hz2' := B2.lt
  have own0 := World.ownsRow_made (base := w.heap.size + 1) (size := 3) (e := 32) w2 #[] 0 (by omega) (by simp) (by simp)
  have B3 := B2.alloc (.cells #[] 32)
  have G3 := below_alloc G2 (.cells #[] 32)
  go_loopw [5, 6, 7] (fun v t i wr => ∃ (k : Nat) (out : List Dp) (done : Bool) (dc : Dp), k ≤ l.length ∧ i = .int .i64 k ∧ t = .bool done ∧ PutSt l d k out done ∧ dc.1 = d.1 ∧ (done = false → dc = d) ∧ Blk wr w.heap.size #[.int .i64 dc.1, .int .i64 dc.2.1, .int .i64 dc.2.2] 32 ∧ wr.ownsRow (w.heap.size + 1) 32 3 v out.length (dpsC out) ∧ Below w.heap.size w wr) (fun _ _ i _ => l.length - (intOf i).toNat)
  case atStart => exact ⟨0, [], false, d, Nat.zero_le _, rfl, rfl, .inl ⟨rfl, rfl, by simp⟩, rfl, fun _ => rfl, B3, own0, G3⟩
  case round =>
    obtain ⟨k, out, done, dc, hk, rfl, rfl, hst, hdk, hdc, BD, own, hBw⟩ := hrel
    have hlen := hst.len hk
    have hz := BD.lt
    by_cases hlt : k < l.length
    · have hr' := hr
      obtain ⟨_, _, h3⟩ := hr'
      obtain ⟨b, off, rfl, hob, hcell⟩ := h3 (dpsC_ne (by omega))
      obtain ⟨g0, g1, g2⟩ := dpsC_get l k hlt
      obtain ⟨c0, c1, c2, hbl⟩ := cells3 hBw hob (hcell _ _ g0) (hcell _ _ g1) (hcell _ _ g2)
      rw [← Nat.add_assoc] at c1 c2
      have HL : b < wr.heap.size := hbl
      have hi0 : (0 : Int) ≤ (k : Int) := by omega
      have hi1 : (k : Int) < (l.length : Int) := by omega
      clear hcell g0 g1 g2 h3
      obtain ⟨q0, q1, q2, qf, ql⟩ := BD.three
      cases done with
      | true =>
        have hp := hst.past hok hlt
        rw [← hdk] at hp
        have hn : (l[k].1 == dc.1) = false := by simp; omega
        have hn2 : (l[k].1 != dc.1) = true := by simp; omega
        have HS := Lib.hid (hst.on hlt)
        have HDK := Lib.hid hdk
        clear hst hdk hdc
        go_wp2
        refine region_over (by kernel_rfl) (by kernel_rfl) ?_
        repeat (go_big_quiet_step (fail))
        refine wpQuiet_nil ?_
        intro w8 hb8
        have own8 := own_below own hb8
        have BD8 := BD.below hb8 BD.lt
        have hBw8 := below_after hBw hb8
        obtain ⟨x80, x81, x82, hl8⟩ := cells3 hb8 HL c0 c1 c2
        obtain ⟨y80, y81, y82, y8f, y8l⟩ := BD8.three
        go_wp2
        refine region_over (by kernel_rfl) (by kernel_rfl) ?_
        repeat (go_big_quiet_step (fail))
        refine wpQuiet_nil ?_
        intro w9 hb9
        have own9 := own_below own8 hb9
        have BD9 := BD8.below hb9 BD8.lt
        have hBw9 := below_after hBw8 hb9
        obtain ⟨x90, x91, x92, hl9⟩ := cells3 hb9 hl8 x80 x81 x82
        obtain ⟨y90, y91, y92, y9f, y9l⟩ := BD9.three
        go_wp2_with (at_builtin; refine wpList_append_own _ rfl (.tmp 71) (.tmp 76) 25 rfl (w.heap.size + 1) 32 i0 _ 3 24 Try.underlying25 hi hz0 hz1 hz2 rfl (by decide) _ _ _ rfl (own9.alloc _) _ 1 1 [.int .i64 l[k].1, .int .i64 l[k].2.1, .int .i64 l[k].2.2] rfl rfl (by exact cell_three_at _ _ _ _ _ (by simp)) (by exact one_three _ _ _) (by unfold maxLen; omega) (by omega) (by simp; omega) ?_)
        intro v4 w4 own4 hg4 _
        have hb4 : Below (w.heap.size + 1) w9 w4 := below_app (Below.alloc (Below.refl (w.heap.size + 1) w9) (by first | omega | (simp; omega)) (.cells #[.int .i64 l[k].1, .int .i64 l[k].2.1, .int .i64 l[k].2.2] 32)) (own9.alloc _) hg4 (Nat.le_refl _) (by simp; omega)
        clear hg4
        have BD4 := BD9.below hb4 (by omega)
        have hBw4 := hBw9.trans (hb4.mono (by omega))
        have own4 : w4.ownsRow (w.heap.size + 1) 32 3 v4 (out ++ [l[k]]).length (dpsC (out ++ [l[k]])) := by rw [dpsC_snoc]; simpa using own4
        obtain ⟨y40, y41, y42, y4f, y4l⟩ := BD4.three
        have hln4 : (out ++ [l[k]]).length ≤ 1048590 := by simp; omega
        go_wp2
        go_roundw
        case rel => exact ⟨k + 1, out ++ [l[k]], true, dc, by omega, by go_num, rfl, HS.out, HDK.out, (fun h => by cases h), BD4, own4, hBw4⟩
        case measure => simp [intOf]; omega
      | false =>
        have hde : d = dc := (hdc rfl).symm
        subst hde
        clear hdc hdk
        by_cases heq : l[k].1 = d.1
        · have hn : (l[k].1 == d.1) = true := by simpa using heq
          have hn2 : (l[k].1 != d.1) = false := by simpa using heq
          have hge : d.1 ≤ l[k].1 := by omega
          have hst2 := hst.same hlt heq
          rw [newer_same heq] at hst2
          have HS := Lib.hid hst2
          have HDK := Lib.hid heq
          clear hst hst2 heq
          cases hless : stampLessB d.2.1 d.2.2 l[k].2.1 l[k].2.2 with
          | true =>
            go_wp2
            refine region_over (by kernel_rfl) (by kernel_rfl) ?_
            repeat (go_big_quiet_step (fail))
            refine wpQuiet_nil ?_
            intro w8 hb8
            have own8 := own_below own hb8
            have BD8 := BD.below hb8 BD.lt
            have hBw8 := below_after hBw hb8
            obtain ⟨x80, x81, x82, hl8⟩ := cells3 hb8 HL c0 c1 c2
            obtain ⟨y80, y81, y82, y8f, y8l⟩ := BD8.three
            go_wp2
            refine region_over (by kernel_rfl) (by kernel_rfl) ?_
            repeat (go_big_quiet_step (first | (go_at_call 92; exact quiet_over (bool_is hless (stampLess_spec _ _ _ _ _)))))
            refine wpQuiet_nil ?_
            intro w9 hb9
            have own9 := own_below own8 hb9
            have BD9 := BD8.below hb9 BD8.lt
            have hBw9 := below_after hBw8 hb9
            obtain ⟨x90, x91, x92, hl9⟩ := cells3 hb9 hl8 x80 x81 x82
            obtain ⟨y90, y91, y92, y9f, y9l⟩ := BD9.three
            have hnw := own_ne' own9 (show w.heap.size < w.heap.size + 1 by omega)
            have own9s := own_set (own_set (own_set own9 hnw (o := 0) (.int .i64 l[k].1)) hnw (o := 1) (.int .i64 l[k].2.1)) hnw (o := 2) (.int .i64 l[k].2.2)
            have BD9s := BD9.set3 (.int .i64 l[k].1) (.int .i64 l[k].2.1) (.int .i64 l[k].2.2)
            have hB9s := below_setb (below_setb (below_setb hBw9 (b := w.heap.size) (o := 0) (Nat.le_refl _) (.int .i64 l[k].1)) (b := w.heap.size) (o := 1) (Nat.le_refl _) (.int .i64 l[k].2.1)) (b := w.heap.size) (o := 2) (Nat.le_refl _) (.int .i64 l[k].2.2)
            have hcb : w.heap.size ≠ b := by omega
            obtain ⟨e0, e1, e2⟩ := cells3_set (o := 0) hcb (.int .i64 l[k].1) x90 x91 x92
            obtain ⟨e0, e1, e2⟩ := cells3_set (o := 1) hcb (.int .i64 l[k].2.1) e0 e1 e2
            obtain ⟨e0, e1, e2⟩ := cells3_set (o := 2) hcb (.int .i64 l[k].2.2) e0 e1 e2
            have HLs : b < (((w9.setCell ⟨w.heap.size, 0, none⟩ (.int .i64 l[k].1)).setCell ⟨w.heap.size, 1, none⟩ (.int .i64 l[k].2.1)).setCell ⟨w.heap.size, 2, none⟩ (.int .i64 l[k].2.2)).heap.size := by simpa using hl9
            obtain ⟨u0, u1, u2, uf, ul⟩ := BD9s.three
            go_wp2_with (at_builtin; refine wpList_append_own _ rfl (.tmp 59) (.tmp 61) 25 rfl (w.heap.size + 1) 32 i0 _ 3 24 Try.underlying25 hi hz0 hz1 hz2 rfl (by decide) _ _ _ rfl (own9s.alloc _) _ 1 1 [.int .i64 l[k].1, .int .i64 l[k].2.1, .int .i64 l[k].2.2] rfl rfl (by exact cell_three_at _ _ _ _ _ (by simp)) (by exact one_three _ _ _) (by unfold maxLen; omega) (by omega) (by simp; omega) ?_)
            intro v4 w4 own4 hg4 _
            have hb4 : Below (w.heap.size + 1) (((w9.setCell ⟨w.heap.size, 0, none⟩ (.int .i64 l[k].1)).setCell ⟨w.heap.size, 1, none⟩ (.int .i64 l[k].2.1)).setCell ⟨w.heap.size, 2, none⟩ (.int .i64 l[k].2.2)) w4 := below_app (Below.alloc (Below.refl (w.heap.size + 1) (((w9.setCell ⟨w.heap.size, 0, none⟩ (.int .i64 l[k].1)).setCell ⟨w.heap.size, 1, none⟩ (.int .i64 l[k].2.1)).setCell ⟨w.heap.size, 2, none⟩ (.int .i64 l[k].2.2))) (by first | omega | (simp; omega)) (.cells #[.int .i64 l[k].1, .int .i64 l[k].2.1, .int .i64 l[k].2.2] 32)) (own9s.alloc _) hg4 (Nat.le_refl _) (by simp; omega)
            clear hg4
            have BD4 := BD9s.below hb4 (by omega)
            have hBw4 := hB9s.trans (hb4.mono (by omega))
            have own4 : w4.ownsRow (w.heap.size + 1) 32 3 v4 (out ++ [if lessD d l[k] then l[k] else d]).length (dpsC (out ++ [if lessD d l[k] then l[k] else d])) := by rw [dpsC_snoc, lessD, hless]; simpa using own4
            obtain ⟨y40, y41, y42, y4f, y4l⟩ := BD4.three
            have hln4 : (out ++ [if lessD d l[k] then l[k] else d]).length ≤ 1048590 := by simp; omega
            obtain ⟨x40, x41, x42, hl4⟩ := cellsN hb4 (Nat.lt_succ_of_lt hob) HLs e0 e1 e2
            go_wp2
            refine region_over (by kernel_rfl) (by kernel_rfl) ?_
            repeat (go_big_quiet_step (fail))
            refine wpQuiet_nil ?_
            intro w5 hb5
            have own5 := own_below own4 hb5
            have BD5 := BD4.below hb5 BD4.lt
            have hBw5 := below_after hBw4 hb5
            obtain ⟨x50, x51, x52, hl5⟩ := cells3 hb5 hl4 x40 x41 x42
            obtain ⟨y50, y51, y52, y5f, y5l⟩ := BD5.three
            go_wp2
            go_roundw
            case rel => exact ⟨k + 1, _, true, l[k], by omega, by go_num, rfl, HS.out, HDK.out, (fun h => by cases h), BD5, own5, hBw5⟩
            case measure => simp [intOf]; omega
          | false =>
            go_wp2
            refine region_over (by kernel_rfl) (by kernel_rfl) ?_
            repeat (go_big_quiet_step (fail))
            refine wpQuiet_nil ?_
            intro w8 hb8
            have own8 := own_below own hb8
            have BD8 := BD.below hb8 BD.lt
            have hBw8 := below_after hBw hb8
            obtain ⟨x80, x81, x82, hl8⟩ := cells3 hb8 HL c0 c1 c2
            obtain ⟨y80, y81, y82, y8f, y8l⟩ := BD8.three
            go_wp2
            refine region_over (by kernel_rfl) (by kernel_rfl) ?_
            repeat (go_big_quiet_step (first | (go_at_call 92; exact quiet_over (bool_is hless (stampLess_spec _ _ _ _ _)))))
            refine wpQuiet_nil ?_
            intro w9 hb9
            have own9 := own_below own8 hb9
            have BD9 := BD8.below hb9 BD8.lt
            have hBw9 := below_after hBw8 hb9
            obtain ⟨x90, x91, x92, hl9⟩ := cells3 hb9 hl8 x80 x81 x82
            obtain ⟨y90, y91, y92, y9f, y9l⟩ := BD9.three
            go_wp2_with (at_builtin; refine wpList_append_own _ rfl (.tmp 59) (.tmp 61) 25 rfl (w.heap.size + 1) 32 i0 _ 3 24 Try.underlying25 hi hz0 hz1 hz2 rfl (by decide) _ _ _ rfl (own9.alloc _) _ 1 1 [.int .i64 d.1, .int .i64 d.2.1, .int .i64 d.2.2] rfl rfl (by exact cell_three_at _ _ _ _ _ (by simp)) (by exact one_three _ _ _) (by unfold maxLen; omega) (by omega) (by simp; omega) ?_)
            intro v4 w4 own4 hg4 _
            have hb4 : Below (w.heap.size + 1) w9 w4 := below_app (Below.alloc (Below.refl (w.heap.size + 1) w9) (by first | omega | (simp; omega)) (.cells #[.int .i64 d.1, .int .i64 d.2.1, .int .i64 d.2.2] 32)) (own9.alloc _) hg4 (Nat.le_refl _) (by simp; omega)
            clear hg4
            have BD4 := BD9.below hb4 (by omega)
            have hBw4 := hBw9.trans (hb4.mono (by omega))
            have own4 : w4.ownsRow (w.heap.size + 1) 32 3 v4 (out ++ [if lessD d l[k] then l[k] else d]).length (dpsC (out ++ [if lessD d l[k] then l[k] else d])) := by rw [dpsC_snoc, lessD, hless]; simpa using own4
            obtain ⟨y40, y41, y42, y4f, y4l⟩ := BD4.three
            have hln4 : (out ++ [if lessD d l[k] then l[k] else d]).length ≤ 1048590 := by simp; omega
            obtain ⟨x40, x41, x42, hl4⟩ := cellsN hb4 (Nat.lt_succ_of_lt hob) hl9 x90 x91 x92
            go_wp2
            refine region_over (by kernel_rfl) (by kernel_rfl) ?_
            repeat (go_big_quiet_step (fail))
            refine wpQuiet_nil ?_
            intro w5 hb5
            have own5 := own_below own4 hb5
            have BD5 := BD4.below hb5 BD4.lt
            have hBw5 := below_after hBw4 hb5
            obtain ⟨x50, x51, x52, hl5⟩ := cells3 hb5 hl4 x40 x41 x42
            obtain ⟨y50, y51, y52, y5f, y5l⟩ := BD5.three
            go_wp2
            go_roundw
            case rel => exact ⟨k + 1, _, true, d, by omega, by go_num, rfl, HS.out, rfl, (fun h => by cases h), BD5, own5, hBw5⟩
            case measure => simp [intOf]; omega
        · have hn : (l[k].1 == d.1) = false := by simpa using heq
          have hn2 : (l[k].1 != d.1) = true := by simpa using heq
          by_cases hgt : d.1 < l[k].1
          · have hge : d.1 ≤ l[k].1 := by omega
            have hst2 := hst.ahead hlt hgt
            have HS := Lib.hid hst2
            clear hst hst2 heq
            go_wp2
            refine region_over (by kernel_rfl) (by kernel_rfl) ?_
            repeat (go_big_quiet_step (fail))
            refine wpQuiet_nil ?_
            intro w8 hb8
            have own8 := own_below own hb8
            have BD8 := BD.below hb8 BD.lt
            have hBw8 := below_after hBw hb8
            obtain ⟨x80, x81, x82, hl8⟩ := cells3 hb8 HL c0 c1 c2
            obtain ⟨y80, y81, y82, y8f, y8l⟩ := BD8.three
            go_wp2
            refine region_over (by kernel_rfl) (by kernel_rfl) ?_
            repeat (go_big_quiet_step (fail))
            refine wpQuiet_nil ?_
            intro w9 hb9
            have own9 := own_below own8 hb9
            have BD9 := BD8.below hb9 BD8.lt
            have hBw9 := below_after hBw8 hb9
            obtain ⟨x90, x91, x92, hl9⟩ := cells3 hb9 hl8 x80 x81 x82
            obtain ⟨y90, y91, y92, y9f, y9l⟩ := BD9.three
            go_wp2_with (at_builtin; refine wpList_append_own _ rfl (.tmp 59) (.tmp 61) 25 rfl (w.heap.size + 1) 32 i0 _ 3 24 Try.underlying25 hi hz0 hz1 hz2 rfl (by decide) _ _ _ rfl (own9.alloc _) _ 1 1 [.int .i64 d.1, .int .i64 d.2.1, .int .i64 d.2.2] rfl rfl (by exact cell_three_at _ _ _ _ _ (by simp)) (by exact one_three _ _ _) (by unfold maxLen; omega) (by omega) (by simp; omega) ?_)
            intro v4 w4 own4 hg4 _
            have hb4 : Below (w.heap.size + 1) w9 w4 := below_app (Below.alloc (Below.refl (w.heap.size + 1) w9) (by first | omega | (simp; omega)) (.cells #[.int .i64 d.1, .int .i64 d.2.1, .int .i64 d.2.2] 32)) (own9.alloc _) hg4 (Nat.le_refl _) (by simp; omega)
            clear hg4
            have BD4 := BD9.below hb4 (by omega)
            have hBw4 := hBw9.trans (hb4.mono (by omega))
            have own4 : w4.ownsRow (w.heap.size + 1) 32 3 v4 (out ++ [d]).length (dpsC (out ++ [d])) := by rw [dpsC_snoc]; simpa using own4
            obtain ⟨y40, y41, y42, y4f, y4l⟩ := BD4.three
            have hln4 : (out ++ [d]).length ≤ 1048590 := by simp; omega
            obtain ⟨x40, x41, x42, hl4⟩ := cellsN hb4 (Nat.lt_succ_of_lt hob) hl9 x90 x91 x92
            go_wp2
            refine region_over (by kernel_rfl) (by kernel_rfl) ?_
            repeat (go_big_quiet_step (fail))
            refine wpQuiet_nil ?_
            intro w5 hb5
            have own5 := own_below own4 hb5
            have BD5 := BD4.below hb5 BD4.lt
            have hBw5 := below_after hBw4 hb5
            obtain ⟨x50, x51, x52, hl5⟩ := cells3 hb5 hl4 x40 x41 x42
            obtain ⟨y50, y51, y52, y5f, y5l⟩ := BD5.three
            go_wp2_with (at_builtin; refine wpList_append_own _ rfl (.tmp 71) (.tmp 76) 25 rfl (w.heap.size + 1) 32 i0 _ 3 24 Try.underlying25 hi hz0 hz1 hz2 rfl (by decide) _ _ _ rfl (own5.alloc _) _ 1 1 [.int .i64 l[k].1, .int .i64 l[k].2.1, .int .i64 l[k].2.2] rfl rfl (by exact cell_three_at _ _ _ _ _ (by simp)) (by exact one_three _ _ _) (by unfold maxLen; omega) (by omega) (by simp; omega) ?_)
            intro v6 w6 own6 hg6 _
            have hb6 : Below (w.heap.size + 1) w5 w6 := below_app (Below.alloc (Below.refl (w.heap.size + 1) w5) (by first | omega | (simp; omega)) (.cells #[.int .i64 l[k].1, .int .i64 l[k].2.1, .int .i64 l[k].2.2] 32)) (own5.alloc _) hg6 (Nat.le_refl _) (by simp; omega)
            clear hg6
            have BD6 := BD5.below hb6 (by omega)
            have hBw6 := hBw5.trans (hb6.mono (by omega))
            have own6 : w6.ownsRow (w.heap.size + 1) 32 3 v6 (out ++ [d] ++ [l[k]]).length (dpsC (out ++ [d] ++ [l[k]])) := by rw [dpsC_snoc]; simpa using own6
            obtain ⟨y60, y61, y62, y6f, y6l⟩ := BD6.three
            have hln6 : (out ++ [d] ++ [l[k]]).length ≤ 1048590 := by simp; omega
            go_wp2
            go_roundw
            case rel => exact ⟨k + 1, _, true, d, by omega, by go_num, rfl, HS.out, rfl, (fun h => by cases h), BD6, own6, hBw6⟩
            case measure => simp [intOf]; omega
          · have hlt2 : l[k].1 < d.1 := by omega
            have hst2 := hst.behind hlt hlt2
            have HS := Lib.hid hst2
            clear hst hst2 heq hgt
            go_wp2
            refine region_over (by kernel_rfl) (by kernel_rfl) ?_
            repeat (go_big_quiet_step (fail))
            refine wpQuiet_nil ?_
            intro w8 hb8
            have own8 := own_below own hb8
            have BD8 := BD.below hb8 BD.lt
            have hBw8 := below_after hBw hb8
            obtain ⟨x80, x81, x82, hl8⟩ := cells3 hb8 HL c0 c1 c2
            obtain ⟨y80, y81, y82, y8f, y8l⟩ := BD8.three
            go_wp2
            refine region_over (by kernel_rfl) (by kernel_rfl) ?_
            repeat (go_big_quiet_step (fail))
            refine wpQuiet_nil ?_
            intro w9 hb9
            have own9 := own_below own8 hb9
            have BD9 := BD8.below hb9 BD8.lt
            have hBw9 := below_after hBw8 hb9
            obtain ⟨x90, x91, x92, hl9⟩ := cells3 hb9 hl8 x80 x81 x82
            obtain ⟨y90, y91, y92, y9f, y9l⟩ := BD9.three
            go_wp2_with (at_builtin; refine wpList_append_own _ rfl (.tmp 71) (.tmp 76) 25 rfl (w.heap.size + 1) 32 i0 _ 3 24 Try.underlying25 hi hz0 hz1 hz2 rfl (by decide) _ _ _ rfl (own9.alloc _) _ 1 1 [.int .i64 l[k].1, .int .i64 l[k].2.1, .int .i64 l[k].2.2] rfl rfl (by exact cell_three_at _ _ _ _ _ (by simp)) (by exact one_three _ _ _) (by unfold maxLen; omega) (by omega) (by simp; omega) ?_)
            intro v4 w4 own4 hg4 _
            have hb4 : Below (w.heap.size + 1) w9 w4 := below_app (Below.alloc (Below.refl (w.heap.size + 1) w9) (by first | omega | (simp; omega)) (.cells #[.int .i64 l[k].1, .int .i64 l[k].2.1, .int .i64 l[k].2.2] 32)) (own9.alloc _) hg4 (Nat.le_refl _) (by simp; omega)
            clear hg4
            have BD4 := BD9.below hb4 (by omega)
            have hBw4 := hBw9.trans (hb4.mono (by omega))
            have own4 : w4.ownsRow (w.heap.size + 1) 32 3 v4 (out ++ [l[k]]).length (dpsC (out ++ [l[k]])) := by rw [dpsC_snoc]; simpa using own4
            obtain ⟨y40, y41, y42, y4f, y4l⟩ := BD4.three
            have hln4 : (out ++ [l[k]]).length ≤ 1048590 := by simp; omega
            go_wp2
            go_roundw
            case rel => exact ⟨k + 1, _, false, d, by omega, by go_num, rfl, HS.out, rfl, (fun _ => rfl), BD4, own4, hBw4⟩
            case measure => simp [intOf]; omega
    · obtain rfl : k = l.length := by omega
      have hd := hst.done
      obtain ⟨q0, q1, q2, qf, ql⟩ := BD.three
      have HD := Lib.hid hd
      clear hd hst
      cases done with
      | true =>
        go_wp2
        go_ret
        exact ⟨_, rfl, by rw [HD.out, if_pos trivial]; exact own_base own (by omega), hBw⟩
      | false =>
        have hde : d = dc := (hdc rfl).symm
        subst hde
        go_wp2_with (at_builtin; refine wpList_append_own _ rfl (.tmp 80) (.tmp 82) 25 rfl (w.heap.size + 1) 32 i0 _ 3 24 Try.underlying25 hi hz0 hz1 hz2 rfl (by decide) _ _ _ rfl (own.alloc _) _ 1 1 [.int .i64 d.1, .int .i64 d.2.1, .int .i64 d.2.2] rfl rfl (by exact cell_three_at _ _ _ _ _ (by simp)) (by exact one_three _ _ _) (by unfold maxLen; omega) (by omega) (by simp; omega) ?_)
        intro v3 w3 own3 hg3 _
        have hb3 : Below (w.heap.size + 1) wr w3 := below_app (Below.alloc (Below.refl (w.heap.size + 1) wr) (by first | omega | (simp; omega)) (.cells #[.int .i64 d.1, .int .i64 d.2.1, .int .i64 d.2.2] 32)) (own.alloc _) hg3 (Nat.le_refl _) (by simp; omega)
        clear hg3
        go_wp2
        go_ret
        exact ⟨_, rfl, by rw [HD.out, if_neg (by simp), dpsC_snoc]; exact own_base (by simpa using own3) (by omega), hBw.trans (hb3.mono (by omega))⟩

end Go.Proofs.Ythciikogogkfcaa
